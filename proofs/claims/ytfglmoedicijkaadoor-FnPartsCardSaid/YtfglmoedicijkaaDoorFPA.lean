/-
  FnParts returns true for every code: the walk.
-/
import Derived.Test.YtfglmoedicijkaaDoorDP
import Derived.Test.YtfglmoedicijkaaDoorPLW
import Derived.Test.YtfglmoedicijkaaDoorWTX
import Derived.Test.YtfglmoedicijkaaDoorW2
namespace Go.Proofs.YtfglmoedicijkaaDoor.fnParts
open Go.ChangeShapes Go.WideShapes Go.ChangeAt Go.RowKit

/-- A box that holds parts. -/
def HoldsP (w : World) (b : Nat) (p : PartsV) : Prop := b < w.heap.size ∧ w.cell? ⟨b, 0, none⟩ = some (.string p.spec) ∧ w.cell? ⟨b, 1, none⟩ = some (.string p.gen)
theorem HoldsP.ext {w w' : World} {b : Nat} {p : PartsV} (h : HoldsP w b p) (x : Ext w w') : HoldsP w' b p :=
  ⟨Nat.lt_of_lt_of_le h.1 x.size, (Below.cell x (p := ⟨b, 0, none⟩) h.1).trans h.2.1, (Below.cell x (p := ⟨b, 1, none⟩) h.1).trans h.2.2⟩
theorem HoldsP.new (w : World) (p : PartsV) : HoldsP (w.alloc (.cells #[.string p.spec, .string p.gen] 51)) w.heap.size p :=
  ⟨by simp, box_keptG (Ext.refl _) 0, box_keptG (Ext.refl _) 1⟩
theorem take_ok {gs : List ByteArray} {t : ByteArray} (ht : t.size ≤ 1073741000) : okParts (takeP gs t) ∧ (takeP gs t).spec.size + (takeP gs t).gen.size ≤ 1073741823 := by
  cases h : takeB gs t
  · rw [(take_bad h).1]
    exact ⟨⟨by decide, by decide⟩, by decide⟩
  · have hb := h
    rw [takeB, Bool.and_eq_true] at hb
    have := apart_ok (gs := gs) hb.2 ht
    rw [(take_good h).1]
    exact ⟨⟨by omega, by omega⟩, by omega⟩
theorem take_law {gs : List ByteArray} {t : ByteArray} (h : takeC gs t = 0) : togetherB (takeP gs t) true = true ∧ togetherB (takeP gs t) false = true ∧ (together (takeP gs t) true = t ∨ together (takeP gs t) false = t) ∧ ((takeP gs t).gen = ⟨#[]⟩ ∨ hasT gs (takeP gs t).gen = true) := by
  cases hB : takeB gs t
  · rw [(take_bad hB).2] at h; cases h
  · have hb := hB
    rw [takeB, Bool.and_eq_true] at hb
    obtain ⟨l1, l2, l3, l4⟩ := apart_law hb.1 hb.2
    rw [(take_good hB).1]
    refine ⟨l1, l2, ?_, l4.imp id fun h => ?_⟩
    · cases hf : apartF gs t
      · rw [hf] at l3; exact .inr l3
      · rw [hf] at l3; exact .inl l3
    · obtain ⟨k, hk, e, _⟩ := hasS_of h
      rw [← e]
      exact hasT_mem.2 (nthS_mem hk)

set_option maxRecDepth 100000 in
set_option maxHeartbeats 8000000 in
theorem walk (a_code : Option Addr) (n_code c_code : Nat) (z_code : List Int) (w : World) (hi_code : InBy w a_code n_code z_code) (hmax : MaxW w) :
    Calls Tryd.prog 5 #[.slice a_code n_code c_code] w fun e w' => e = .returned (.bool true) ∧ Ext w w' := by
  by_cases hbig : (4096 : Int) < n_code
  · go_enter Tryd.func5, Tryd.ntmps5
    go_wp2_with (go_at_call 18; refine (big_any _ _ _ _).mono ?_; rintro e w' ⟨rfl, rfl⟩)
    go_ret
    exact ⟨rfl, Ext.refl _⟩
  have hr := hi_code.rdBy (by omega)
  clear hi_code
  go_enter Tryd.func5, Tryd.ntmps5
  go_wp2_with (go_at_call 18; refine (big_any _ _ _ _).mono ?_; rintro e w' ⟨rfl, rfl⟩)
  clear hbig
  refine (drawTakeApart_any _ _ _ _ _ hr).mono ?_
  rintro e w1 ⟨a1, n1, c1, gs, t, rfl, nt1, ht, x1⟩
  have X := x1
  have hcap1 := nt1.cap
  have r1 := nt1.rd
  clear nt1
  have ht2 : t.size ≤ 1073741824 := by omega
  have htk := take_ok (gs := gs) (t := t) (by omega)
  go_wp2_with fail
  refine (implTakeApart_any _ _ _ _ _ _ r1 hcap1 ht2 (hmax.ext X)).mono ?_
  rintro e w2 ⟨rfl, x2⟩
  replace r1 := r1.ext x2
  replace X := X.trans x2
  rw [valParts]
  have xb2 := (Ext.refl w2).alloc (.cells #[.string (takeP gs t).spec, .string (takeP gs t).gen] 51)
  replace r1 := r1.ext xb2
  replace X := X.trans xb2
  have h2 := HoldsP.new w2 (takeP gs t)
  clear xb2
  go_wp2_with fail
  refine (specTakeApart_any _ _ _ _ _ _ r1 ht2).mono ?_
  rintro e w3 ⟨rfl, x3⟩
  replace r1 := r1.ext x3
  replace h2 := h2.ext x3
  replace X := X.trans x3
  rw [valParts]
  have xb3 := (Ext.refl w3).alloc (.cells #[.string (takeP gs t).spec, .string (takeP gs t).gen] 51)
  replace r1 := r1.ext xb3
  replace h2 := h2.ext xb3
  replace X := X.trans xb3
  have h3 := HoldsP.new w3 (takeP gs t)
  clear xb3
  go_wp2_with fail
  refine (drawPutTogether_any _ _ _ _ _ (hr.ext X)).mono ?_
  rintro e w4 ⟨x, f, rfl, hx, x4⟩
  replace r1 := r1.ext x4
  replace h2 := h2.ext x4
  replace h3 := h3.ext x4
  replace X := X.trans x4
  rw [valParts]
  have xb4 := (Ext.refl w4).alloc (.cells #[.string x.spec, .string x.gen] 51)
  replace r1 := r1.ext xb4
  replace h2 := h2.ext xb4
  replace h3 := h3.ext xb4
  replace X := X.trans xb4
  have h4 := HoldsP.new w4 x
  clear xb4
  have hx2 : okParts x ∧ x.spec.size + x.gen.size ≤ 1073741823 := ⟨⟨by omega, by omega⟩, by omega⟩
  have l0 := h4.2.1
  have l1 := h4.2.2
  go_wp2_with fail
  refine (implPutTogether_any x f _ hx2.1 hx2.2 (hmax.ext X)).mono ?_
  rintro e w5 ⟨rfl, x5⟩
  replace r1 := r1.ext x5
  replace h2 := h2.ext x5
  replace h3 := h3.ext x5
  replace h4 := h4.ext x5
  replace X := X.trans x5
  replace l0 := h4.2.1
  replace l1 := h4.2.2
  go_wp2_with fail
  refine (specPutTogether_any x f _ hx2.1 hx2.2).mono ?_
  rintro e w6 ⟨rfl, x6⟩
  replace r1 := r1.ext x6
  replace h2 := h2.ext x6
  replace h3 := h3.ext x6
  replace h4 := h4.ext x6
  replace X := X.trans x6
  clear l0 l1
  clear h4
  go_wp2_with fail
  refine (drawTranslateGeneric_any _ _ _ _ _ (hr.ext X)).mono ?_
  rintro e w7 ⟨a7, n7, c7, fs, a8, n8, c8, ts, q, rfl, nt7, nt8, hq, x7⟩
  replace r1 := r1.ext x7
  replace h2 := h2.ext x7
  replace h3 := h3.ext x7
  replace X := X.trans x7
  have hcap7 := nt7.cap
  have hcap8 := nt8.cap
  have r7 := nt7.rd
  have r8 := nt8.rd
  clear nt7 nt8
  have hq2 : q.size ≤ 1073741000 := by omega
  have hq3 : q.size ≤ 1073741824 := by omega
  go_wp2_with fail
  refine (implTranslateGeneric_any _ _ _ _ _ _ _ _ _ _ r7 hcap7 r8 hcap8 hq2 (hmax.ext X)).mono ?_
  rintro e w9 ⟨rfl, x9⟩
  replace r1 := r1.ext x9
  replace h2 := h2.ext x9
  replace h3 := h3.ext x9
  replace r7 := r7.ext x9
  replace r8 := r8.ext x9
  replace X := X.trans x9
  go_wp2_with fail
  refine (specTranslateGeneric_any _ _ _ _ _ _ _ _ _ _ r7 r8 hq2).mono ?_
  rintro e w10 ⟨rfl, x10⟩
  replace r1 := r1.ext x10
  replace h2 := h2.ext x10
  replace h3 := h3.ext x10
  replace r7 := r7.ext x10
  replace r8 := r8.ext x10
  replace X := X.trans x10
  clear r8
  have l0 := h2.2.1
  have l1 := h2.2.2
  have m0 := h3.2.1
  have m1 := h3.2.2
  go_wp2_with fail
  refine (implAreGenerics_any _ _ _ _ _ r1 hcap1).mono ?_
  rintro e w11 ⟨rfl, x11⟩
  replace r1 := r1.ext x11
  replace h2 := h2.ext x11
  replace h3 := h3.ext x11
  replace r7 := r7.ext x11
  replace X := X.trans x11
  go_wp2_with fail
  refine (specAreGenerics_any _ _ _ _ _ r1).mono ?_
  rintro e w12 ⟨rfl, rfl⟩
  clear l0 l1 m0 m1 h3
  cases h1 : (trC fs ts q == 0)
  · clear r7
    cases hc : (takeC gs t == 0)
    · go_wp2
      go_ret
      exact ⟨rfl, X⟩
    · obtain ⟨q1, q2, q3, q4⟩ := take_law (gs := gs) (t := t) (by simpa using hc)
      have HQ := Lib.hid (And.intro q1 (And.intro q2 (And.intro q3 q4)))
      have hc1 := Lib.hid hc
      clear q1 q2 q3 q4
      have l0 := h2.2.1
      have l1 := h2.2.2
      go_wp2_with fail
      refine (implPutTogether_any (takeP gs t) true _ htk.1 htk.2 (hmax.ext X)).mono ?_
      rintro e w20 ⟨rfl, x20⟩
      rw [(together_good HQ.out.1).1, (together_good HQ.out.1).2]
      replace h2 := h2.ext x20
      replace r1 := r1.ext x20
      replace X := X.trans x20
      replace l0 := h2.2.1
      replace l1 := h2.2.2
      go_wp2_with fail
      refine (implPutTogether_any (takeP gs t) false _ htk.1 htk.2 (hmax.ext X)).mono ?_
      rintro e w21 ⟨rfl, x21⟩
      rw [(together_good HQ.out.2.1).1, (together_good HQ.out.2.1).2]
      replace h2 := h2.ext x21
      replace r1 := r1.ext x21
      replace X := X.trans x21
      replace l1 := h2.2.2
      clear l0
      cases hF : (together (takeP gs t) true).toList == t.toList
      all_goals cases hG : (together (takeP gs t) false).toList == t.toList
      · exact absurd HQ.out.2.2.1 (by rintro (h | h) <;> simp [h] at hF hG)
      all_goals by_cases hn : (takeP gs t).gen = ⟨#[]⟩
      · rw [hn] at l1
        go_wp2
        go_ret
        exact ⟨rfl, X⟩
      · have hne := isEmptyS_ne hn
        have HT := Lib.hid (HQ.out.2.2.2.resolve_left hn)
        clear hn
        go_wp2_with fail
        refine (hasText_any _ _ _ _ _ _ r1).mono ?_
        rintro e w22 ⟨rfl, rfl⟩
        rw [HT.out]
        go_wp2
        go_ret
        exact ⟨rfl, X⟩
      · rw [hn] at l1
        go_wp2
        go_ret
        exact ⟨rfl, X⟩
      · have hne := isEmptyS_ne hn
        have HT := Lib.hid (HQ.out.2.2.2.resolve_left hn)
        clear hn
        go_wp2_with fail
        refine (hasText_any _ _ _ _ _ _ r1).mono ?_
        rintro e w22 ⟨rfl, rfl⟩
        rw [HT.out]
        go_wp2
        go_ret
        exact ⟨rfl, X⟩
      · rw [hn] at l1
        go_wp2
        go_ret
        exact ⟨rfl, X⟩
      · have hne := isEmptyS_ne hn
        have HT := Lib.hid (HQ.out.2.2.2.resolve_left hn)
        clear hn
        go_wp2_with fail
        refine (hasText_any _ _ _ _ _ _ r1).mono ?_
        rintro e w22 ⟨rfl, rfl⟩
        rw [HT.out]
        go_wp2
        go_ret
        exact ⟨rfl, X⟩
  · obtain ⟨p1, p2, p3, p4⟩ := translate_same (gs := fs) (ts := ts) (s := q) (by simpa using h1)
    have HP := Lib.hid (And.intro p1 (And.intro p2 p3))
    have h1c := Lib.hid h1
    go_wp2_with fail
    refine (implTakeApart_any _ _ _ _ _ _ r7 hcap7 hq3 (hmax.ext X)).mono ?_
    rintro e w14 ⟨rfl, x14⟩
    rw [valParts, HP.out.1]
    have xb := (Ext.refl w14).alloc (.cells #[.string (takeP fs q).spec, .string (takeP fs q).gen] 51)
    have x14b := x14.trans xb
    replace h2 := h2.ext x14b
    replace r1 := r1.ext x14b
    replace r7 := r7.ext x14b
    replace X := X.trans x14b
    have h14 := HoldsP.new w14 (takeP fs q)
    clear p1 p2 p3 xb x14b
    go_wp2_with fail
    refine (implTranslateGeneric_any _ _ _ _ _ _ _ _ _ _ r7 hcap7 r7 hcap7 hq2 (hmax.ext X)).mono ?_
    rintro e w15 ⟨rfl, x15⟩
    rw [HP.out.2.1, HP.out.2.2]
    replace h2 := h2.ext x15
    replace r1 := r1.ext x15
    replace X := X.trans x15
    have l1 := (h14.ext x15).2.2
    clear r7 h14
    by_cases hn : (takeP fs q).gen = ⟨#[]⟩
    · rw [hn] at l1
      have hg := p4 hn
      rw [hg]
      clear p4 hn hg
      cases hc : (takeC gs t == 0)
      · go_wp2
        go_ret
        exact ⟨rfl, X⟩
      · obtain ⟨q1, q2, q3, q4⟩ := take_law (gs := gs) (t := t) (by simpa using hc)
        have HQ := Lib.hid (And.intro q1 (And.intro q2 (And.intro q3 q4)))
        have hc1 := Lib.hid hc
        clear q1 q2 q3 q4
        have l0 := h2.2.1
        have l1 := h2.2.2
        go_wp2_with fail
        refine (implPutTogether_any (takeP gs t) true _ htk.1 htk.2 (hmax.ext X)).mono ?_
        rintro e w20 ⟨rfl, x20⟩
        rw [(together_good HQ.out.1).1, (together_good HQ.out.1).2]
        replace h2 := h2.ext x20
        replace r1 := r1.ext x20
        replace X := X.trans x20
        replace l0 := h2.2.1
        replace l1 := h2.2.2
        go_wp2_with fail
        refine (implPutTogether_any (takeP gs t) false _ htk.1 htk.2 (hmax.ext X)).mono ?_
        rintro e w21 ⟨rfl, x21⟩
        rw [(together_good HQ.out.2.1).1, (together_good HQ.out.2.1).2]
        replace h2 := h2.ext x21
        replace r1 := r1.ext x21
        replace X := X.trans x21
        replace l1 := h2.2.2
        clear l0
        cases hF : (together (takeP gs t) true).toList == t.toList
        all_goals cases hG : (together (takeP gs t) false).toList == t.toList
        · exact absurd HQ.out.2.2.1 (by rintro (h | h) <;> simp [h] at hF hG)
        all_goals by_cases hn : (takeP gs t).gen = ⟨#[]⟩
        · rw [hn] at l1
          go_wp2
          go_ret
          exact ⟨rfl, X⟩
        · have hne := isEmptyS_ne hn
          have HT := Lib.hid (HQ.out.2.2.2.resolve_left hn)
          clear hn
          go_wp2_with fail
          refine (hasText_any _ _ _ _ _ _ r1).mono ?_
          rintro e w22 ⟨rfl, rfl⟩
          rw [HT.out]
          go_wp2
          go_ret
          exact ⟨rfl, X⟩
        · rw [hn] at l1
          go_wp2
          go_ret
          exact ⟨rfl, X⟩
        · have hne := isEmptyS_ne hn
          have HT := Lib.hid (HQ.out.2.2.2.resolve_left hn)
          clear hn
          go_wp2_with fail
          refine (hasText_any _ _ _ _ _ _ r1).mono ?_
          rintro e w22 ⟨rfl, rfl⟩
          rw [HT.out]
          go_wp2
          go_ret
          exact ⟨rfl, X⟩
        · rw [hn] at l1
          go_wp2
          go_ret
          exact ⟨rfl, X⟩
        · have hne := isEmptyS_ne hn
          have HT := Lib.hid (HQ.out.2.2.2.resolve_left hn)
          clear hn
          go_wp2_with fail
          refine (hasText_any _ _ _ _ _ _ r1).mono ?_
          rintro e w22 ⟨rfl, rfl⟩
          rw [HT.out]
          go_wp2
          go_ret
          exact ⟨rfl, X⟩
    · have hne' := isEmptyS_ne hn
      clear p4 hn
      cases hc : (takeC gs t == 0)
      · go_wp2
        go_ret
        exact ⟨rfl, X⟩
      · obtain ⟨q1, q2, q3, q4⟩ := take_law (gs := gs) (t := t) (by simpa using hc)
        have HQ := Lib.hid (And.intro q1 (And.intro q2 (And.intro q3 q4)))
        have hc1 := Lib.hid hc
        clear q1 q2 q3 q4
        have l0 := h2.2.1
        have l1 := h2.2.2
        go_wp2_with fail
        refine (implPutTogether_any (takeP gs t) true _ htk.1 htk.2 (hmax.ext X)).mono ?_
        rintro e w20 ⟨rfl, x20⟩
        rw [(together_good HQ.out.1).1, (together_good HQ.out.1).2]
        replace h2 := h2.ext x20
        replace r1 := r1.ext x20
        replace X := X.trans x20
        replace l0 := h2.2.1
        replace l1 := h2.2.2
        go_wp2_with fail
        refine (implPutTogether_any (takeP gs t) false _ htk.1 htk.2 (hmax.ext X)).mono ?_
        rintro e w21 ⟨rfl, x21⟩
        rw [(together_good HQ.out.2.1).1, (together_good HQ.out.2.1).2]
        replace h2 := h2.ext x21
        replace r1 := r1.ext x21
        replace X := X.trans x21
        replace l1 := h2.2.2
        clear l0
        cases hF : (together (takeP gs t) true).toList == t.toList
        all_goals cases hG : (together (takeP gs t) false).toList == t.toList
        · exact absurd HQ.out.2.2.1 (by rintro (h | h) <;> simp [h] at hF hG)
        all_goals by_cases hn : (takeP gs t).gen = ⟨#[]⟩
        · rw [hn] at l1
          go_wp2
          go_ret
          exact ⟨rfl, X⟩
        · have hne := isEmptyS_ne hn
          have HT := Lib.hid (HQ.out.2.2.2.resolve_left hn)
          clear hn
          go_wp2_with fail
          refine (hasText_any _ _ _ _ _ _ r1).mono ?_
          rintro e w22 ⟨rfl, rfl⟩
          rw [HT.out]
          go_wp2
          go_ret
          exact ⟨rfl, X⟩
        · rw [hn] at l1
          go_wp2
          go_ret
          exact ⟨rfl, X⟩
        · have hne := isEmptyS_ne hn
          have HT := Lib.hid (HQ.out.2.2.2.resolve_left hn)
          clear hn
          go_wp2_with fail
          refine (hasText_any _ _ _ _ _ _ r1).mono ?_
          rintro e w22 ⟨rfl, rfl⟩
          rw [HT.out]
          go_wp2
          go_ret
          exact ⟨rfl, X⟩
        · rw [hn] at l1
          go_wp2
          go_ret
          exact ⟨rfl, X⟩
        · have hne := isEmptyS_ne hn
          have HT := Lib.hid (HQ.out.2.2.2.resolve_left hn)
          clear hn
          go_wp2_with fail
          refine (hasText_any _ _ _ _ _ _ r1).mono ?_
          rintro e w22 ⟨rfl, rfl⟩
          rw [HT.out]
          go_wp2
          go_ret
          exact ⟨rfl, X⟩

end Go.Proofs.YtfglmoedicijkaaDoor.fnParts

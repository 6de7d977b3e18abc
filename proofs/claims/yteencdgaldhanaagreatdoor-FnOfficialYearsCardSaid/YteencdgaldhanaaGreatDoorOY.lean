/-
  OfficialYears: both sides.
-/
import Derived.Test.YteencdgaldhanaaGreatDoorIT8
import Derived.Test.YteencdgaldhanaaGreatDoorNU2
import Derived.Test.YteencdgaldhanaaGreatDoorNLO
import Derived.Test.YteencdgaldhanaaGreatDoorOR
namespace Go.Proofs.YteencdgaldhanaaGreatDoor
open Go.RowKit

def yearsV (x : NameV) : SpanV := ⟨x.from_, x.to_⟩
def offS (xs : List NameV) (s : ByteArray) (k : Nat) : List SpanV := pickL (fun x => offB x s) yearsV xs k
def oyC (xs : List NameV) (s : ByteArray) : Int := codeN xs (langB s) 0
def oyL (xs : List NameV) (s : ByteArray) : List SpanV := if oyC xs s = 0 then bldS (offS xs s xs.length) 6001 else []
theorem oy_bad {xs : List NameV} {s : ByteArray} (h : namesB xs = false ∨ langB s = false) : oyC xs s = 1 ∧ oyL xs s = [] := by
  have h1 : oyC xs s = 1 := codeN_bad h
  exact ⟨h1, if_neg (by rw [h1]; decide)⟩
theorem oy_good {xs : List NameV} {s : ByteArray} (h : namesB xs = true) (h2 : langB s = true) : oyC xs s = 0 ∧ oyL xs s = bldS (offS xs s xs.length) 6001 := by
  have h1 : oyC xs s = 0 := codeN_ok h h2 (by decide)
  exact ⟨h1, if_pos h1⟩
theorem offS_good {xs : List NameV} {s : ByteArray} {k : Nat} (h : namesB xs = true) : ∀ z ∈ offS xs s k, (z.from_ ≤ z.to_ ∧ -3000 ≤ z.from_ ∧ z.to_ ≤ 3000) := fun z hz => by
  obtain ⟨x, hx, _, rfl⟩ := pick_mem hz
  have hn := (namesB_iff.1 h).1.1 x hx
  have hsp := spanB_iff.1 (nameB_pc hn).2.2.2
  simp only [yearsV] at hsp ⊢
  omega
theorem offS_bd {xs : List NameV} {s : ByteArray} {k : Nat} (h : namesB xs = true) : bdS (offS xs s k) := fun z hz => by
  have := offS_good h z hz
  omega
theorem oy_union {xs : List NameV} {s : ByteArray} {ys : List SpanV} (h : namesB xs = true) (hp : ys.Perm (offS xs s xs.length)) (hu : upS ys) : unionS ys = bldS (offS xs s xs.length) 6001 :=
  years_union hu (fun z hz => offS_good h z (hp.mem_iff.1 hz)) fun z => hp.mem_iff
def OwnSpan (w : World) (B : Nat) (a : Option Addr) (n c : Nat) (xs : List SpanV) : Prop := OwnG laySp 60 w B a n c xs ∧ True
def RetSpanC (w : World) (xs : List SpanV) (code : Int) (e : Ending) (w' : World) : Prop := ∃ v, e = .returned (.tuple #[v, .int .i64 code]) ∧ ∃ a n c, v = .slice a n c ∧ n ≤ 1048576 ∧ OwnSpan w' w.heap.size a n c xs ∧ Ext w w'
theorem RetSpanC.nil {w : World} {code : Int} {w' : World} (h : Ext w w') : RetSpanC w [] code (.returned (.tuple #[.slice none 0 0, .int .i64 code])) w' := ⟨_, rfl, none, 0, 0, rfl, by decide, ⟨OwnG.isNil _ _ _ _, trivial⟩, h⟩

set_option maxRecDepth 100000 in
set_option maxHeartbeats 2000000 in
theorem implOfficialYears_any (a : Option Addr) (n c : Nat) (s : ByteArray) (xs : List NameV) (w : World) (hr : RdName w a n xs) (hcap : n ≤ c) (hs : s.size ≤ 9223372036854775807) (hmax : MaxW w) :
    Calls Tryz.prog 9 #[.slice a n c, .string s] w (RetSpanC w (oyL xs s) (oyC xs s)) := by
  have hm := hr.le
  have hln := hr.len
  cases hn : namesB xs
  · have HZ := Lib.hid (oy_bad (xs := xs) (s := s) (.inl hn))
    have HN := Lib.hid hn
    clear hn
    go_enter Tryz.func9, Tryz.ntmps9
    go_wp2_with fail
    refine (implAreNames_any _ _ _ _ _ hr hcap hmax).mono ?_
    rintro e w1 ⟨rfl, x1⟩
    rw [HN.out]
    go_wp2
    go_ret2
    rw [HZ.out.1, HZ.out.2]
    exact RetSpanC.nil x1
  have HN := Lib.hid hn
  clear hn
  cases hl : langB s
  · have HZ := Lib.hid (oy_bad (xs := xs) (s := s) (.inr hl))
    have HL := Lib.hid hl
    clear hl
    go_enter Tryz.func9, Tryz.ntmps9
    go_wp2_with fail
    refine (implAreNames_any _ _ _ _ _ hr hcap hmax).mono ?_
    rintro e w1 ⟨rfl, x1⟩
    rw [HN.out]
    go_wp2_with fail
    refine (isLanguage_any _ _ hs).mono ?_
    rintro e w2 ⟨rfl, x2⟩
    rw [HL.out]
    go_wp2
    go_ret2
    rw [HZ.out.1, HZ.out.2]
    exact RetSpanC.nil (x1.trans x2)
  have HL := Lib.hid hl
  have HZ := Lib.hid (oy_good (xs := xs) (s := s) HN.out hl)
  have h12 : n ≤ 12 := by rw [← hln]; exact (namesB_iff.1 HN.out).2
  clear hl
  go_enter Tryz.func9, Tryz.ntmps9
  go_wp2_with fail
  refine (implAreNames_any _ _ _ _ _ hr hcap hmax).mono ?_
  rintro e w1 ⟨rfl, x1⟩
  rw [HN.out]
  go_wp2_with fail
  refine (isLanguage_any _ _ hs).mono ?_
  rintro e w2 ⟨rfl, x2⟩
  rw [HL.out]
  have X2 := x1.trans x2
  have r2 := hr.ext X2
  clear x1 x2
  go_wp2
  go_loopw [6, 19] (fun v i wr => ∃ (k : Nat) (a1 : Option Addr) (c1 : Nat), k ≤ n ∧ i = .int .i64 k ∧ v = .slice a1 (offS xs s k).length c1 ∧ OwnG laySp 60 wr w2.heap.size a1 (offS xs s k).length c1 (offS xs s k) ∧ Ext w2 wr) (fun _ i _ => n - (intOf i).toNat)
  case atStart => exact ⟨0, none, 0, Nat.zero_le _, rfl, by simp [offS, pick_zero], by simp [offS, pick_zero]; exact OwnG.isNil _ _ _ _, Ext.refl _⟩
  case round =>
    obtain ⟨k, a1, c1, hk, rfl, rfl, ho, hx⟩ := hrel
    by_cases hlt : k < n
    · obtain ⟨b, o, rfl, hb, hA⟩ := (r2.ext hx).at (by omega)
      have hget : xs[k]? = some (nthName xs k) := by rw [nthName_eq (by omega)]; exact List.getElem?_eq_getElem (by omega)
      obtain ⟨d0, d1, d2, d3, d4⟩ := hA k hlt
      have hpl : (offS xs s k).length ≤ k := pick_len _ _ _ _
      have HI := Lib.hid (show offB (nthName xs k) s = true → offS xs s (k + 1) = offS xs s k ++ [⟨(nthName xs k).from_, (nthName xs k).to_⟩] from fun h => pick_in hget h)
      have HO2 := Lib.hid (show offB (nthName xs k) s = false → offS xs s (k + 1) = offS xs s k from fun h => pick_out hget h)
      have HO := Lib.hid (And.intro ho hx)
      have hki : (k : Int) < n := by omega
      clear hA ho hx hget
      generalize nthName xs k = x at *
      obtain ⟨x0, x1, x2, x3, x4⟩ := x
      simp only at d0 d1 d2 d3 d4
      cases hoff : offB ⟨x0, x1, x2, x3, x4⟩ s
      · have hnx := Lib.hid (HO2.out hoff)
        go_wp2_with fail
        refine (isOfficial_any ⟨x0, x1, x2, x3, x4⟩ s _).mono ?_
        rintro e w3 ⟨rfl, x3'⟩
        rw [hoff]
        have X3 := ((Ext.refl wr).alloc _).trans x3'
        go_wp2
        go_roundw
        case rel => exact ⟨k + 1, a1, c1, by omega, by go_num, by rw [hnx.out], by rw [hnx.out]; exact HO.out.1.ext X3, HO.out.2.trans X3⟩
        case measure => simp only [intOf]; omega
      · have hnx := Lib.hid (HI.out hoff)
        go_wp2_with fail
        refine (isOfficial_any ⟨x0, x1, x2, x3, x4⟩ s _).mono ?_
        rintro e w3 ⟨rfl, x3'⟩
        rw [hoff]
        have X3 := ((Ext.refl wr).alloc _).trans x3'
        have b3 : w3.cell? ⟨wr.heap.size, 3, none⟩ = some (.int .i64 x3) := box_keptG x3' 3
        have b4 : w3.cell? ⟨wr.heap.size, 3 + 1, none⟩ = some (.int .i64 x4) := box_keptG x3' 4
        have b4' : w3.cell? ⟨wr.heap.size, 4, none⟩ = some (.int .i64 x4) := b4
        have HX := Lib.hid (And.intro (HO.out.1.ext X3) (HO.out.2.trans X3))
        clear X3 x3'
        go_wp2_with (first | (at_builtin; refine wpList_appG laySp rfl _ _ 24 60 rfl Tryz.underlying24 (.agg #[.int .i64 0, .int .i64 0]) 16 Tryz.info_Span rfl (by decide) w2.heap.size _ (offS xs s k).length _ (offS xs s k) rfl (HX.out.1.alloc _) _ 1 _ [⟨x3, x4⟩] rfl (RdG.new1 laySp _ _ _ rfl _) (by omega) (by have := HX.out.2.size; simp; omega) ?_; intro a3 c3 w4 hown hgrow; have HM := Lib.hid (And.intro hown (Ext.appG HX.out.2 HX.out.1 (Nat.le_refl _) hgrow)); clear hown hgrow))
        go_roundw
        case rel => exact ⟨k + 1, a3, c3, by omega, by go_num, by rw [hnx.out]; simp, by rw [hnx.out]; simpa using HM.out.1, HM.out.2⟩
        case measure => simp only [intOf]; omega
    · obtain rfl : k = n := by omega
      have HO := Lib.hid (And.intro ho hx)
      clear ho hx
      have hpl := pick_len (fun x => offB x s) yearsV xs k
      go_wp2_with fail
      refine (unionI_any _ _ _ _ _ (HO.out.1.mono (Nat.zero_le _)) (by rw [offS]; omega) (offS_bd HN.out)).mono ?_
      rintro e w3 ⟨v, rfl, ys, hp, hu, a3, n3, c3, rfl, o3, x3⟩
      rw [← hln] at hp
      have hz := oy_union HN.out hp hu
      have hl3 := o3.rd.len
      have hul := union_len ys
      have hyl := hp.length_eq
      rw [hln] at hyl
      have HF := Lib.hid (And.intro hz (And.intro o3 x3))
      clear hz o3 x3
      go_wp2
      go_ret2
      rw [HZ.out.1, HZ.out.2]
      refine ⟨_, rfl, a3, n3, c3, rfl, by rw [offS] at hyl; omega, ⟨?_, trivial⟩, X2.trans (HO.out.2.trans HF.out.2.2)⟩
      rw [← HF.out.1]
      exact HF.out.2.1.mono (Nat.le_trans X2.size HO.out.2.size)

set_option maxRecDepth 100000 in
set_option maxHeartbeats 2000000 in
theorem specOfficialYears_any (a : Option Addr) (n c : Nat) (s : ByteArray) (xs : List NameV) (w : World) (hr : RdName w a n xs) (hs : s.size ≤ 9223372036854775807) :
    Calls Tryz.prog 7 #[.slice a n c, .string s] w (RetSpanC w (oyL xs s) (oyC xs s)) := by
  have hm := hr.le
  have hln := hr.len
  by_cases hg : namesB xs = true ∧ langB s = true
  · have HZ := Lib.hid (oy_good (xs := xs) (s := s) hg.1 hg.2)
    have HC := Lib.hid (codeN_ok (y := 0) hg.1 hg.2 (by decide))
    have HN := Lib.hid hg.1
    have h12 : n ≤ 12 := by rw [← hln]; exact (namesB_iff.1 hg.1).2
    clear hg
    go_enter Tryz.func7, Tryz.ntmps7
    go_wp2_with fail
    refine (l09Code_any _ _ _ _ _ _ _ hr hs).mono ?_
    rintro e w1 ⟨rfl, x1⟩
    rw [HC.out]
    have r1 := hr.ext x1
    go_wp2
    go_loopw [7, 8] (fun v i wr => ∃ (k : Nat) (a1 : Option Addr) (c1 : Nat), k ≤ n ∧ i = .int .i64 k ∧ v = .slice a1 (offS xs s k).length c1 ∧ OwnG laySp 60 wr w1.heap.size a1 (offS xs s k).length c1 (offS xs s k) ∧ Ext w1 wr) (fun _ i _ => n - (intOf i).toNat)
    case atStart => exact ⟨0, _, _, Nat.zero_le _, rfl, by simp [offS, pick_zero]; exact ⟨rfl, rfl⟩, by simp [offS, pick_zero]; exact OwnG.lit laySp 60 w1 (Nat.le_refl _) [] #[] rfl (by simp), (Ext.refl _).alloc _⟩
    case round =>
      obtain ⟨k, a1, c1, hk, rfl, rfl, ho, hx⟩ := hrel
      by_cases hlt : k < n
      · obtain ⟨b, o, rfl, hb, hA⟩ := (r1.ext hx).at (by omega)
        have hget : xs[k]? = some (nthName xs k) := by rw [nthName_eq (by omega)]; exact List.getElem?_eq_getElem (by omega)
        obtain ⟨d0, d1, d2, d3, d4⟩ := hA k hlt
        have d4' : wr.cell? ⟨b, o + k * 5 + 3 + 1, none⟩ = some (.int .i64 (nthName xs k).to_) := d4
        have hpl : (offS xs s k).length ≤ k := pick_len _ _ _ _
        have HI := Lib.hid (show offB (nthName xs k) s = true → offS xs s (k + 1) = offS xs s k ++ [⟨(nthName xs k).from_, (nthName xs k).to_⟩] from fun h => pick_in hget h)
        have HO2 := Lib.hid (show offB (nthName xs k) s = false → offS xs s (k + 1) = offS xs s k from fun h => pick_out hget h)
        have HX := Lib.hid (And.intro ho hx)
        have hki : (k : Int) < n := by omega
        clear hA ho hx hget
        generalize nthName xs k = x at *
        obtain ⟨x0, x1, x2, x3, x4⟩ := x
        simp only at d0 d1 d2 d3 d4 d4'
        by_cases h2 : x2 = 0
        · have h2b : (x2 == 0) = true := by rw [h2]; rfl
          by_cases h1 : x1 = s
          · have hnx := Lib.hid (HI.out (by simp [offB, h1, h2]))
            have hb1 := beqS_eq h1
            clear h1 h2 HI HO2
            go_wp2_with (first | (at_builtin; refine wpList_appG laySp rfl _ _ 24 60 rfl Tryz.underlying24 (.agg #[.int .i64 0, .int .i64 0]) 16 Tryz.info_Span rfl (by decide) w1.heap.size _ (offS xs s k).length _ (offS xs s k) rfl (HX.out.1.alloc _) _ 1 _ [⟨x3, x4⟩] rfl (RdG.new1 laySp _ _ _ rfl _) (by omega) (by have := HX.out.2.size; simp; omega) ?_; intro a3 c3 w4 hown hgrow; have HM := Lib.hid (And.intro hown (Ext.appG HX.out.2 HX.out.1 (Nat.le_refl _) hgrow)); clear hown hgrow))
            go_roundw
            case rel => exact ⟨k + 1, a3, c3, by omega, by go_num, by rw [hnx.out]; simp, by rw [hnx.out]; simpa using HM.out.1, HM.out.2⟩
            case measure => simp only [intOf]; omega
          · have hnx := Lib.hid (HO2.out (by simp [offB, h1]))
            have hb1 := beqS_ne h1
            clear h1 h2 HI HO2
            go_wp2
            go_roundw
            case rel => exact ⟨k + 1, a1, c1, by omega, by go_num, by rw [hnx.out], by rw [hnx.out]; exact HX.out.1, HX.out.2⟩
            case measure => simp only [intOf]; omega
        · have hnx := Lib.hid (HO2.out (by simp [offB, h2]))
          have h2b : (x2 == 0) = false := by simpa using h2
          clear h2 HI HO2
          go_wp2
          go_roundw
          case rel => exact ⟨k + 1, a1, c1, by omega, by go_num, by rw [hnx.out], by rw [hnx.out]; exact HX.out.1, HX.out.2⟩
          case measure => simp only [intOf]; omega
      · obtain rfl : k = n := by omega
        have HX := Lib.hid (And.intro ho hx)
        clear ho hx
        go_wp2_with fail
        refine (l02Build_any _ _ _ _ _ _ _ (HX.out.1.rd.ext ((Ext.refl _).alloc _)) (RdG.nil _ _ _)).mono ?_
        rintro e w3 ⟨v, rfl, a3, n3, c3, rfl, o3, x3⟩
        have hl3 := o3.rd.len
        have hbl := bld_len (offS xs s k) 6001
        have HF := Lib.hid (And.intro o3 x3)
        clear o3 x3
        go_wp2
        go_ret2
        rw [HZ.out.1, HZ.out.2, hln]
        have x4 : Ext w1 w3 := (HX.out.2.alloc _).trans HF.out.2
        exact ⟨_, rfl, a3, n3, c3, rfl, by omega, ⟨HF.out.1.mono (by have := (x1.trans HX.out.2).size; simp; omega), trivial⟩, x1.trans x4⟩
  · have hb : namesB xs = false ∨ langB s = false := by
      cases h1 : namesB xs
      · exact .inl rfl
      · cases h2 : langB s
        · exact .inr rfl
        · exact absurd ⟨h1, h2⟩ hg
    have HZ := Lib.hid (oy_bad hb)
    have HC := Lib.hid (codeN_bad (y := 0) hb)
    clear hg hb
    go_enter Tryz.func7, Tryz.ntmps7
    go_wp2_with fail
    refine (l09Code_any _ _ _ _ _ _ _ hr hs).mono ?_
    rintro e w1 ⟨rfl, x1⟩
    rw [HC.out]
    go_wp2
    go_ret2
    rw [HZ.out.1, HZ.out.2]
    exact RetSpanC.nil x1

end Go.Proofs.YteencdgaldhanaaGreatDoor

/-
  RenameIn on both sides.
-/
import Derived.Test.YteencdgaldhanaaGreatDoorRN2
namespace Go.Proofs.YteencdgaldhanaaGreatDoor
open Go.RowKit
attribute [local go_sem ↓] Go.wp_at_zero Go.wp_at_succ

/-- A list of names and a code. -/
def RetNameC (w : World) (xs : List NameV) (code : Int) (e : Ending) (w' : World) : Prop := ∃ v, e = .returned (.tuple #[v, .int .i64 code]) ∧ ∃ a n c, v = .slice a n c ∧ n ≤ 1048576 ∧ OwnName w' w.heap.size a n c xs ∧ Ext w w'
theorem RetNameC.nil {w : World} {code : Int} {w' : World} (h : Ext w w') : RetNameC w [] code (.returned (.tuple #[.slice none 0 0, .int .i64 code])) w' := ⟨_, rfl, none, 0, 0, rfl, by decide, ⟨OwnG.isNil _ _ _ _, by simp⟩, h⟩
def rnK (xs : List NameV) (s : ByteArray) (y : Int) : Nat := (offI xs s y).toNat
def rnL0 (xs : List NameV) (s : ByteArray) (y : Int) (t : ByteArray) : List NameV := renL xs (rnK xs s y) y t
def rnC (xs : List NameV) (s : ByteArray) (y : Int) (t : ByteArray) : Int := if phraseB t = true then (if offC xs s y = 0 then (if 12 < (rnL0 xs s y t).length then 3 else 0) else offC xs s y) else 1
def rnL (xs : List NameV) (s : ByteArray) (y : Int) (t : ByteArray) : List NameV := if rnC xs s y t = 0 then rnL0 xs s y t else []
theorem rn_text {xs : List NameV} {s : ByteArray} {y : Int} {t : ByteArray} (h : phraseB t = false) : rnC xs s y t = 1 ∧ rnL xs s y t = [] := by
  have h1 : rnC xs s y t = 1 := by rw [rnC, h]; rfl
  exact ⟨h1, if_neg (by rw [h1]; decide)⟩
theorem rn_code {xs : List NameV} {s : ByteArray} {y : Int} {t : ByteArray} (h : phraseB t = true) (h2 : offC xs s y ≠ 0) : rnC xs s y t = offC xs s y ∧ rnL xs s y t = [] := by
  have h1 : rnC xs s y t = offC xs s y := by rw [rnC, if_pos h, if_neg h2]
  exact ⟨h1, if_neg (by rw [h1]; exact h2)⟩
theorem rn_many {xs : List NameV} {s : ByteArray} {y : Int} {t : ByteArray} (h : phraseB t = true) (h2 : offC xs s y = 0) (h3 : 12 < (rnL0 xs s y t).length) : rnC xs s y t = 3 ∧ rnL xs s y t = [] := by
  have h1 : rnC xs s y t = 3 := by rw [rnC, if_pos h, if_pos h2, if_pos h3]
  exact ⟨h1, if_neg (by rw [h1]; decide)⟩
theorem rn_yes {xs : List NameV} {s : ByteArray} {y : Int} {t : ByteArray} (h : phraseB t = true) (h2 : offC xs s y = 0) (h3 : ¬ 12 < (rnL0 xs s y t).length) : rnC xs s y t = 0 ∧ rnL xs s y t = rnL0 xs s y t := by
  have h1 : rnC xs s y t = 0 := by rw [rnC, if_pos h, if_pos h2, if_neg h3]
  exact ⟨h1, if_pos h1⟩
theorem off_zero {xs : List NameV} {s : ByteArray} {y : Int} (h : offC xs s y = 0) : codeN xs (langB s) y = 0 ∧ offV xs s y = (rnK xs s y : Nat) ∧ offI xs s y = (rnK xs s y : Nat) ∧ rnK xs s y < xs.length ∧ namesB xs = true ∧ (-3000 ≤ y ∧ y ≤ 3000) := by
  by_cases h1 : codeN xs (langB s) y = 0
  · by_cases h2 : offI xs s y < 0
    · have := (off_none h1 h2).2; omega
    · have h3 := (off_some h1 h2).1
      have h4 : offI xs s y = (rnK xs s y : Nat) := by rw [rnK]; omega
      have h5 : rnK xs s y < xs.length := by
        rcases idxP_cases (offY s y) xs with ⟨e, _⟩ | ⟨k, hk, e, _⟩
        · have : offI xs s y = -1 := e
          omega
        · have : offI xs s y = (k : Nat) := e
          omega
      have h6 := codeN_names h1
      have h7 : inB y (-3000) 3000 = true := by
        cases h8 : inB y (-3000) 3000
        · cases hl : langB s
          · rw [codeN_bad (.inr hl)] at h1; omega
          · rw [hl, codeN_range h6 rfl h8] at h1; omega
        · rfl
      exact ⟨h1, by rw [h3, h4], h4, h5, h6, inB_iff.1 h7⟩
  · have := (off_code h1).2
    omega

set_option maxRecDepth 100000 in
set_option maxHeartbeats 1000000 in
theorem implRenameIn_any (a : Option Addr) (n c : Nat) (s : ByteArray) (y : Int) (t : ByteArray) (xs : List NameV) (w : World) (hr : RdName w a n xs) (hcap : n ≤ c) (hs : s.size ≤ 1073741824) (hs2 : t.size ≤ 1073741824) (hmax : MaxW w) :
    Calls Tryz.prog 17 #[.slice a n c, .string s, .int .i64 y, .string t] w (RetNameC w (rnL xs s y t) (rnC xs s y t)) := by
  have hln := hr.len
  cases hP : phraseB t
  · have HZ := Lib.hid (And.intro hP (rn_text (xs := xs) (s := s) (y := y) hP))
    clear hP
    go_enter Tryz.func17, Tryz.ntmps17
    go_wp2_with fail
    refine (implIsPhrase_any _ _ hs2 hmax).mono ?_
    rintro e w1 ⟨rfl, e1⟩
    rw [HZ.out.1]
    go_wp2
    go_ret2
    rw [HZ.out.2.1, HZ.out.2.2]
    exact RetNameC.nil e1
  by_cases hC : offC xs s y = 0
  · obtain ⟨h1, h2, h3, h4, h5, h6⟩ := off_zero hC
    have hn12 := namesB_len h5
    have hlen := renL_len (y := y) (t := t) h4
    by_cases hM : 12 < (rnL0 xs s y t).length
    all_goals
      have hz1 := rn_many (t := t) hP hC
      have hz2 := rn_yes (t := t) hP hC
      have HZ := Lib.hid (And.intro hP (And.intro hC (And.intro h2 (And.intro hM (And.intro hz1 hz2)))))
      have HL := Lib.hid hlen
      have hk : rnK xs s y < n := by omega
      clear hP hC h1 h2 h3 h5 hM hz1 hz2 hlen
      go_enter Tryz.func17, Tryz.ntmps17
      go_wp2_with fail
      refine (implIsPhrase_any _ _ hs2 hmax).mono ?_
      rintro e w1 ⟨rfl, e1⟩
      rw [HZ.out.1]
      go_wp2_with fail
      refine (officialIn_any _ _ _ _ _ _ _ (hr.ext e1) hcap (by omega) (hmax.ext e1)).mono ?_
      rintro e w2 ⟨rfl, e2⟩
      rw [HZ.out.2.1, HZ.out.2.2.1]
      go_wp2_with fail
      refine (renamed_any _ _ _ (rnK xs s y) _ _ _ _ (hr.ext (e1.trans e2)) hk (by omega) h6 hs2).mono ?_
      rintro e w3 ⟨v, rfl, a3, n3, c3, rfl, o3, e3⟩
      have hl3 : (rnL0 xs s y t).length = n3 := o3.rd.len
      have hl4 : n3 ≤ xs.length + 1 := by rw [← hl3]; exact HL.out.1
    · have hb : (12 : Int) < n3 := by have := HZ.out.2.2.2.1; omega
      go_wp2
      go_ret2
      rw [(HZ.out.2.2.2.2.1 (by exact HZ.out.2.2.2.1)).1, (HZ.out.2.2.2.2.1 (by exact HZ.out.2.2.2.1)).2]
      exact RetNameC.nil ((e1.trans e2).trans e3)
    · have hb : ¬ (12 : Int) < n3 := by have := HZ.out.2.2.2.1; omega
      go_wp2
      go_ret2
      rw [(HZ.out.2.2.2.2.2 (by exact HZ.out.2.2.2.1)).1, (HZ.out.2.2.2.2.2 (by exact HZ.out.2.2.2.1)).2]
      exact ⟨_, rfl, _, _, _, rfl, by omega, o3.mono (e1.trans e2).size, (e1.trans e2).trans e3⟩
  · have hb : (offC xs s y == 0) = false := by simpa using hC
    have HZ := Lib.hid (And.intro hP (rn_code (t := t) hP hC))
    clear hP hC
    go_enter Tryz.func17, Tryz.ntmps17
    go_wp2_with fail
    refine (implIsPhrase_any _ _ hs2 hmax).mono ?_
    rintro e w1 ⟨rfl, e1⟩
    rw [HZ.out.1]
    go_wp2_with fail
    refine (officialIn_any _ _ _ _ _ _ _ (hr.ext e1) hcap (by omega) (hmax.ext e1)).mono ?_
    rintro e w2 ⟨rfl, e2⟩
    go_wp2
    go_ret2
    rw [HZ.out.2.1, HZ.out.2.2]
    exact RetNameC.nil (e1.trans e2)

/-- What the reference's loop has put together of the first i names. -/
def renP (xs : List NameV) (k : Nat) (y : Int) (i : Nat) : List NameV := if i ≤ k then xs.take i else xs.take k ++ (renM xs k y ++ (xs.take i).drop (k + 1))
theorem renP_zero (xs : List NameV) (k : Nat) (y : Int) : renP xs k y 0 = [] := by rw [renP, if_pos (Nat.zero_le _)]; rfl
theorem renP_other {xs : List NameV} {k i : Nat} {y : Int} (hi : i < xs.length) (h : i ≠ k) : renP xs k y (i + 1) = renP xs k y i ++ [nthName xs i] := by
  rw [renP, renP, nthName_eq hi]
  by_cases h1 : i + 1 ≤ k
  · rw [if_pos h1, if_pos (by omega), List.take_succ_eq_append_getElem hi]
  · rw [if_neg h1, if_neg (by omega), List.take_succ_eq_append_getElem hi, List.drop_append_of_le_length (by simp; omega)]
    simp
theorem renP_at {xs : List NameV} {k : Nat} {y : Int} (hk : k < xs.length) : renP xs k y (k + 1) = renP xs k y k ++ renM xs k y := by
  rw [renP, renP, if_neg (by omega), if_pos (Nat.le_refl _), List.drop_of_length_le (by simp; omega), List.append_nil]
theorem renP_end {xs : List NameV} {k : Nat} {y : Int} (t : ByteArray) (hk : k < xs.length) : renL xs k y t = renP xs k y xs.length ++ [renN xs k y t] := by
  rw [renP, if_neg (by omega), List.take_length, renL]
theorem renP_len {xs : List NameV} {k i : Nat} {y : Int} : (renP xs k y i).length ≤ i + 1 := by
  have : (renM xs k y).length ≤ 1 := by rw [renM]; split <;> simp
  rw [renP]
  split
  · simp; omega
  · simp only [List.length_append, List.length_take, List.length_drop]; omega
theorem renM_yes {xs : List NameV} {k : Nat} {y : Int} (h : (nthName xs k).from_ = y) : renM xs k y = [] := if_pos h
theorem renM_no {xs : List NameV} {k : Nat} {y : Int} (h : (nthName xs k).from_ ≠ y) : renM xs k y = [⟨(nthName xs k).text, (nthName xs k).lang, (nthName xs k).status, (nthName xs k).from_, y - 1⟩] := if_neg h

set_option maxRecDepth 100000 in
set_option maxHeartbeats 4000000 in
theorem l09Rename_any (a : Option Addr) (n c k : Nat) (y : Int) (t : ByteArray) (xs : List NameV) (w : World) (hr : RdName w a n xs) (hk : k < n) (hn : n ≤ 1048576) (hy : -3000 ≤ y ∧ y ≤ 3000) (ht : t.size ≤ 1073741824) :
    Calls Tryz.prog 58 #[.slice a n c, .int .i64 k, .int .i64 y, .string t] w fun e w' => ∃ v, e = .returned v ∧ NewName w w' (renL xs k y t) v := by
  have hln := hr.len
  have hok := renL_ok (y := y) hr.2 (by omega) ht (k := k)
  obtain ⟨hy0, hy1⟩ := hy
  have ey : IntKind.i64.wrap (y - 1) = y - 1 := IntWalk.i64_in _ (by omega)
  obtain ⟨b, o, rfl, hbl, hA⟩ := hr.at (by omega)
  obtain ⟨d0, d1, d2, d3, d4⟩ := hA k hk
  have hki : (k : Int) < n := by omega
  have HA := Lib.hid hA
  have x1 := (Ext.refl w).alloc (.cells #[.string (nthName xs k).text, .string (nthName xs k).lang, .int .i64 (nthName xs k).status, .int .i64 (nthName xs k).from_, .int .i64 (nthName xs k).to_] 62)
  have xr := Ext.refl (w.alloc (.cells #[.string (nthName xs k).text, .string (nthName xs k).lang, .int .i64 (nthName xs k).status, .int .i64 (nthName xs k).from_, .int .i64 (nthName xs k).to_] 62))
  clear hA
  go_enter Tryz.func58, Tryz.ntmps58
  go_wp2
  clear d0 d1 d2 d3 d4
  have hlit := OwnG.lit layName 62 (w.alloc (.cells #[.string (nthName xs k).text, .string (nthName xs k).lang, .int .i64 (nthName xs k).status, .int .i64 (nthName xs k).from_, .int .i64 (nthName xs k).to_] 62)) (B := w.heap.size + 1) (by simp) [] #[] rfl (by simp)
  rw [World.size_alloc] at hlit
  have hb0 : ∀ W, Ext (w.alloc (.cells #[.string (nthName xs k).text, .string (nthName xs k).lang, .int .i64 (nthName xs k).status, .int .i64 (nthName xs k).from_, .int .i64 (nthName xs k).to_] 62)) W → W.cell? ⟨w.heap.size, 1, none⟩ = some (Value.string (nthName xs k).lang) ∧ W.cell? ⟨w.heap.size, 3, none⟩ = some (Value.int .i64 (nthName xs k).from_) ∧ W.cell? ⟨w.heap.size, 4, none⟩ = some (Value.int .i64 (nthName xs k).to_) := fun W h => ⟨box_keptG h 1, box_keptG h 3, box_keptG h 4⟩
  have HB := Lib.hid hb0
  clear hb0
  go_loopw [10, 11] (fun v i wr => ∃ (m : Nat) (l : List NameV) (a1 : Option Addr) (c1 : Nat), m ≤ n ∧ i = .int .i64 m ∧ v = .slice a1 l.length c1 ∧ l = renP xs k y m ∧ OwnG layName 62 wr (w.heap.size + 1) a1 l.length c1 l ∧ Ext (w.alloc (.cells #[.string (nthName xs k).text, .string (nthName xs k).lang, .int .i64 (nthName xs k).status, .int .i64 (nthName xs k).from_, .int .i64 (nthName xs k).to_] 62)) wr) (fun _ i _ => n - (intOf i).toNat)
  case atStart => exact ⟨0, [], _, _, Nat.zero_le _, rfl, rfl, (renP_zero _ _ _).symm, hlit, xr.alloc _⟩
  case round =>
    obtain ⟨m, l, a1, c1, hm, rfl, rfl, hl, ho, hx⟩ := hrel
    have hlm : l.length ≤ m + 1 := by rw [hl]; exact renP_len
    have HL := Lib.hid hl
    clear hl
    obtain ⟨q1, q3, q4⟩ := HB.out _ hx
    have hxw := x1.trans hx
    by_cases hlt : m < n
    · obtain ⟨z0, z1, z2, z3, z4⟩ := HA.out m hlt
      have z0 := (Below.cell hxw (p := ⟨b, o + m * 5, none⟩) hbl).trans z0
      have z1 := (Below.cell hxw (p := ⟨b, o + m * 5 + 1, none⟩) hbl).trans z1
      have z2 := (Below.cell hxw (p := ⟨b, o + m * 5 + 2, none⟩) hbl).trans z2
      have z3 := (Below.cell hxw (p := ⟨b, o + m * 5 + 3, none⟩) hbl).trans z3
      have z4 := (Below.cell hxw (p := ⟨b, o + m * 5 + 4, none⟩) hbl).trans z4
      have hmi : (m : Int) < n := by omega
      obtain ⟨p1, p3, p4⟩ := HB.out _ (hx.alloc (.cells #[.string (nthName xs m).text, .string (nthName xs m).lang, .int .i64 (nthName xs m).status, .int .i64 (nthName xs m).from_, .int .i64 (nthName xs m).to_] 62))
      by_cases hmk : m = k
      · subst hmk
        by_cases hfy : (nthName xs m).from_ = y
        · have hfb : ((nthName xs m).from_ == y) = true := beq_iff_eq.2 hfy
          have HF := Lib.hid (show renP xs m y (m + 1) = renP xs m y m by rw [renP_at (by omega), renM_yes hfy, List.append_nil])
          clear hfy
          go_wp2
          go_roundw
          case rel => exact ⟨m + 1, l, a1, c1, by omega, by go_num, rfl, by rw [HF.out, ← HL.out], ho.alloc _, hx.alloc _⟩
          case measure => simp [intOf]; omega
        · have hfb : ((nthName xs m).from_ == y) = false := beq_eq_false_iff_ne.2 hfy
          have HF := Lib.hid (show renP xs m y (m + 1) = renP xs m y m ++ [⟨(nthName xs m).text, (nthName xs m).lang, (nthName xs m).status, (nthName xs m).from_, y - 1⟩] by rw [renP_at (by omega), renM_no hfy])
          clear hfy
          have hoA := ho.ext ((Ext.refl wr).alloc (.cells #[.string (nthName xs m).text, .string (nthName xs m).lang, .int .i64 (nthName xs m).status, .int .i64 (nthName xs m).from_, .int .i64 (y - 1)] 62))
          have hxA := hx.alloc (.cells #[.string (nthName xs m).text, .string (nthName xs m).lang, .int .i64 (nthName xs m).status, .int .i64 (nthName xs m).from_, .int .i64 (y - 1)] 62)
          have hrd := RdG.new1 layName (wr.alloc (.cells #[.string (nthName xs m).text, .string (nthName xs m).lang, .int .i64 (nthName xs m).status, .int .i64 (nthName xs m).from_, .int .i64 (y - 1)] 62)) ⟨(nthName xs m).text, (nthName xs m).lang, (nthName xs m).status, (nthName xs m).from_, y - 1⟩ #[.string (nthName xs m).text, .string (nthName xs m).lang, .int .i64 (nthName xs m).status, .int .i64 (nthName xs m).from_, .int .i64 (y - 1)] rfl 62
          rw [World.size_alloc] at hrd
          clear ho hx
          go_wp2_with (first | (at_builtin; refine wpList_appG layName rfl _ _ 27 62 rfl Tryz.underlying27 (.agg #[.string ⟨#[]⟩, .string ⟨#[]⟩, .int .i64 0, .int .i64 0, .int .i64 0]) 56 Tryz.info_Name rfl (by decide) (w.heap.size + 1) _ l.length _ l rfl (hoA.alloc _) _ 1 _ [⟨(nthName xs m).text, (nthName xs m).lang, (nthName xs m).status, (nthName xs m).from_, y - 1⟩] rfl hrd (by omega) (by have := (hxA.alloc (.cells #[.string (nthName xs m).text, .string (nthName xs m).lang, .int .i64 (nthName xs m).status, .int .i64 (nthName xs m).from_, .int .i64 (y - 1)] 62)).size; simpa using this) ?_; intro a5 c5 w5 hown hgrow; have hb5 := hxA.appG hoA (by simp) hgrow; have HO := Lib.hid hown; clear hown))
          go_roundw
          case rel => exact ⟨m + 1, l ++ [⟨(nthName xs m).text, (nthName xs m).lang, (nthName xs m).status, (nthName xs m).from_, y - 1⟩], a5, c5, by omega, by go_num, by simp, by rw [HF.out, ← HL.out], by simpa using HO.out, hb5⟩
          case measure => simp [intOf]; omega
      · have hmb : ((m : Int) == k) = false := beq_eq_false_iff_ne.2 (by omega)
        have HF := Lib.hid (renP_other (xs := xs) (k := k) (y := y) (i := m) (by omega) hmk)
        have hoA := ho.ext ((Ext.refl wr).alloc (.cells #[.string (nthName xs m).text, .string (nthName xs m).lang, .int .i64 (nthName xs m).status, .int .i64 (nthName xs m).from_, .int .i64 (nthName xs m).to_] 62))
        have hxA := hx.alloc (.cells #[.string (nthName xs m).text, .string (nthName xs m).lang, .int .i64 (nthName xs m).status, .int .i64 (nthName xs m).from_, .int .i64 (nthName xs m).to_] 62)
        have hrd := RdG.new1 layName (wr.alloc (.cells #[.string (nthName xs m).text, .string (nthName xs m).lang, .int .i64 (nthName xs m).status, .int .i64 (nthName xs m).from_, .int .i64 (nthName xs m).to_] 62)) (nthName xs m) #[.string (nthName xs m).text, .string (nthName xs m).lang, .int .i64 (nthName xs m).status, .int .i64 (nthName xs m).from_, .int .i64 (nthName xs m).to_] rfl 62
        rw [World.size_alloc] at hrd
        clear hmk ho hx
        go_wp2_with (first | (at_builtin; refine wpList_appG layName rfl _ _ 27 62 rfl Tryz.underlying27 (.agg #[.string ⟨#[]⟩, .string ⟨#[]⟩, .int .i64 0, .int .i64 0, .int .i64 0]) 56 Tryz.info_Name rfl (by decide) (w.heap.size + 1) _ l.length _ l rfl (hoA.alloc _) _ 1 _ [nthName xs m] rfl hrd (by omega) (by have := (hxA.alloc (.cells #[.string (nthName xs m).text, .string (nthName xs m).lang, .int .i64 (nthName xs m).status, .int .i64 (nthName xs m).from_, .int .i64 (nthName xs m).to_] 62)).size; simpa using this) ?_; intro a5 c5 w5 hown hgrow; have hb5 := hxA.appG hoA (by simp) hgrow; have HO := Lib.hid hown; clear hown))
        go_roundw
        case rel => exact ⟨m + 1, l ++ [nthName xs m], a5, c5, by omega, by go_num, by simp, by rw [HF.out, ← HL.out], by simpa using HO.out, hb5⟩
        case measure => simp [intOf]; omega
    · obtain rfl : m = n := by omega
      obtain ⟨q1, q3, q4⟩ := HB.out _ hx
      have hlx : xs.length = m := hln
      have hokz : (nthName xs k).lang.size ≤ 1073741824 := (hr.ok hk).2
      have HF := Lib.hid (renP_end (y := y) t (show k < xs.length by omega))
      go_wp2_with (first | (at_builtin; refine wpList_appG layName rfl _ _ 27 62 rfl Tryz.underlying27 (.agg #[.string ⟨#[]⟩, .string ⟨#[]⟩, .int .i64 0, .int .i64 0, .int .i64 0]) 56 Tryz.info_Name rfl (by decide) (w.heap.size + 1) _ l.length _ l rfl (ho.alloc _) _ 1 _ [renN xs k y t] rfl (RdG.new1 layName _ _ _ rfl _) (by omega) (by have := (hx.alloc (.cells #[.string t, .string (nthName xs k).lang, .int .i64 0, .int .i64 y, .int .i64 (nthName xs k).to_] 62)).size; simpa using this) ?_; intro a5 c5 w5 hown hgrow; have hb5 := hx.appG ho (by simp) hgrow; have HO := Lib.hid hown; clear hown))
      go_ret
      refine ⟨_, rfl, _, _, _, rfl, ⟨?_, hok⟩, x1.trans hb5⟩
      have h5 := HO.out
      rw [HF.out, hlx, ← HL.out]
      exact OwnG.mono h5 (by omega)

set_option maxRecDepth 100000 in
set_option maxHeartbeats 1000000 in
theorem specRenameIn_any (a : Option Addr) (n c : Nat) (s : ByteArray) (y : Int) (t : ByteArray) (xs : List NameV) (w : World) (hr : RdName w a n xs) (hs : s.size ≤ 1073741824) (hs2 : t.size ≤ 1073741824) :
    Calls Tryz.prog 18 #[.slice a n c, .string s, .int .i64 y, .string t] w (RetNameC w (rnL xs s y t) (rnC xs s y t)) := by
  have hln := hr.len
  cases hP : phraseB t
  · have HZ := Lib.hid (And.intro hP (rn_text (xs := xs) (s := s) (y := y) hP))
    clear hP
    go_enter Tryz.func18, Tryz.ntmps18
    go_wp2_with fail
    refine (specIsPhrase_any _ _ hs2).mono ?_
    rintro e w1 ⟨rfl, e1⟩
    rw [HZ.out.1]
    go_wp2
    go_ret2
    rw [HZ.out.2.1, HZ.out.2.2]
    exact RetNameC.nil e1
  by_cases hC : offC xs s y = 0
  · obtain ⟨h1, h2, h3, h4, h5, h6⟩ := off_zero hC
    have hn12 := namesB_len h5
    have hlen := renL_len (y := y) (t := t) h4
    by_cases hM : 12 < (rnL0 xs s y t).length
    all_goals
      have hz1 := rn_many (t := t) hP hC
      have hz2 := rn_yes (t := t) hP hC
      have HZ := Lib.hid (And.intro hP (And.intro hC (And.intro h2 (And.intro hM (And.intro hz1 hz2)))))
      have HL := Lib.hid hlen
      have HK := Lib.hid (And.intro h1 h3)
      have hk : rnK xs s y < n := by omega
      clear hP hC h1 h2 h3 h5 hM hz1 hz2 hlen
      go_enter Tryz.func18, Tryz.ntmps18
      go_wp2_with fail
      refine (specIsPhrase_any _ _ hs2).mono ?_
      rintro e w1 ⟨rfl, e1⟩
      rw [HZ.out.1]
      go_wp2_with fail
      refine (l09Code_any _ _ _ _ _ _ _ (hr.ext e1) (by omega)).mono ?_
      rintro e w1' ⟨rfl, e1'⟩
      rw [HK.out.1]
      go_wp2_with fail
      refine (l09Official_any _ _ _ _ _ _ _ (hr.ext (e1.trans e1'))).mono ?_
      rintro e w2 ⟨rfl, e2'⟩
      have e2 := e1'.trans e2'
      rw [HK.out.2]
      go_wp2_with fail
      refine (l09Rename_any _ _ _ (rnK xs s y) _ _ _ _ (hr.ext (e1.trans e2)) hk (by omega) h6 hs2).mono ?_
      rintro e w3 ⟨v, rfl, a3, n3, c3, rfl, o3, e3⟩
      have hl3 : (rnL0 xs s y t).length = n3 := o3.rd.len
      have hl4 : n3 ≤ xs.length + 1 := by rw [← hl3]; exact HL.out.1
    · have hb : (12 : Int) < n3 := by have := HZ.out.2.2.2.1; omega
      go_wp2
      go_ret2
      rw [(HZ.out.2.2.2.2.1 (by exact HZ.out.2.2.2.1)).1, (HZ.out.2.2.2.2.1 (by exact HZ.out.2.2.2.1)).2]
      exact RetNameC.nil ((e1.trans e2).trans e3)
    · have hb : ¬ (12 : Int) < n3 := by have := HZ.out.2.2.2.1; omega
      go_wp2
      go_ret2
      rw [(HZ.out.2.2.2.2.2 (by exact HZ.out.2.2.2.1)).1, (HZ.out.2.2.2.2.2 (by exact HZ.out.2.2.2.1)).2]
      exact ⟨_, rfl, _, _, _, rfl, by omega, o3.mono (e1.trans e2).size, (e1.trans e2).trans e3⟩
  · have HZ := Lib.hid (And.intro hP (rn_code (t := t) hP hC))
    by_cases h1 : codeN xs (langB s) y = 0
    · have h2 : offI xs s y < 0 := Classical.byContradiction fun hn => hC (off_some h1 hn).2
      have HK := Lib.hid (And.intro h1 (off_none h1 h2).2)
      clear hP hC h1
      go_enter Tryz.func18, Tryz.ntmps18
      go_wp2_with fail
      refine (specIsPhrase_any _ _ hs2).mono ?_
      rintro e w1 ⟨rfl, e1⟩
      rw [HZ.out.1]
      go_wp2_with fail
      refine (l09Code_any _ _ _ _ _ _ _ (hr.ext e1) (by omega)).mono ?_
      rintro e w1' ⟨rfl, e1'⟩
      rw [HK.out.1]
      go_wp2_with fail
      refine (l09Official_any _ _ _ _ _ _ _ (hr.ext (e1.trans e1'))).mono ?_
      rintro e w2 ⟨rfl, e2⟩
      go_wp2
      go_ret2
      rw [HZ.out.2.1, HZ.out.2.2, HK.out.2]
      exact RetNameC.nil ((e1.trans e1').trans e2)
    · have hb : (codeN xs (langB s) y == 0) = false := by simpa using h1
      have HK := Lib.hid (off_code h1)
      clear hP hC h1
      go_enter Tryz.func18, Tryz.ntmps18
      go_wp2_with fail
      refine (specIsPhrase_any _ _ hs2).mono ?_
      rintro e w1 ⟨rfl, e1⟩
      rw [HZ.out.1]
      go_wp2_with fail
      refine (l09Code_any _ _ _ _ _ _ _ (hr.ext e1) (by omega)).mono ?_
      rintro e w1' ⟨rfl, e1'⟩
      go_wp2
      go_ret2
      rw [HZ.out.2.1, HZ.out.2.2, HK.out.2]
      exact RetNameC.nil (e1.trans e1')

end Go.Proofs.YteencdgaldhanaaGreatDoor

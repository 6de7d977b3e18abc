/-
  The sound of a word: the program's and the reference's.
-/
import Derived.Test.YtfglmoedicijkaaGreatDoorE
import Derived.Test.YtfglmoedicijkaaGreatDoorT4
import Derived.Test.YtfglmoedicijkaaGreatDoorS
import Derived.Test.YtfglmoedicijkaaGreatDoorRL
import Derived.Lib.ItoaNum
import Derived.Lib.Repeat
namespace Go.Proofs.YtfglmoedicijkaaGreatDoor
open Go.RowKit

def sb (s : ByteArray) (i : Nat) : Nat := if h : i < s.size then s[i].toNat else 97
theorem sb_eq {s : ByteArray} {i : Nat} (h : i < s.size) : sb s i = s[i].toNat := by rw [sb, dif_pos h]
/-- The sound of letter i. -/
def dgA (t : List Int) (s : ByteArray) (i : Nat) : Int := nth t (sb s i - 97)
def digitT (n : Int) : ByteArray := ⟨#[UInt8.ofNat (48 + n.toNat)]⟩
theorem digitT_size (n : Int) : (digitT n).size = 1 := rfl
/-- The text behind letter k. -/
def sndT (t : List Int) (s : ByteArray) : Nat → ByteArray
  | 0 => s.extract 0 1
  | k + 1 => if (sndT t s k).size < 4 ∧ dgA t s (k + 1) ≠ 0 ∧ dgA t s (k + 1) ≠ dgA t s k then sndT t s k ++ digitT (dgA t s (k + 1)) else sndT t s k
theorem sndT_size {t : List Int} {s : ByteArray} (hs : 0 < s.size) : ∀ k, 1 ≤ (sndT t s k).size ∧ (sndT t s k).size ≤ 4
  | 0 => by rw [sndT, ByteArray.size_extract]; omega
  | k + 1 => by
    have ih := sndT_size (t := t) hs k
    rw [sndT]
    split
    · rw [ByteArray.size_append, digitT_size]; omega
    · exact ih
theorem sndT_full {t : List Int} {s : ByteArray} {k : Nat} (h : 4 ≤ (sndT t s k).size) : ∀ j, sndT t s (k + j) = sndT t s k
  | 0 => rfl
  | j + 1 => by
    have ih := sndT_full h j
    rw [← Nat.add_assoc, sndT, if_neg (by rw [ih]; omega), ih]
def zerosT (k : Nat) : ByteArray := ⟨(List.replicate k (48 : UInt8)).toArray⟩
def padT (x : ByteArray) : ByteArray := x ++ zerosT (4 - x.size)
def soundT (t : List Int) (s : ByteArray) : ByteArray := padT (sndT t s (s.size - 1))
theorem repeat_zeros (k : Nat) : (⟨(Lib.repeatL (⟨#[48]⟩ : ByteArray).data.toList k).toArray⟩ : ByteArray) = zerosT k := by
  have : Lib.repeatL (⟨#[48]⟩ : ByteArray).data.toList k = List.replicate k 48 := by
    induction k with
    | zero => rfl
    | succ k ih => rw [Lib.repeatL, ih, List.replicate_succ]; rfl
  rw [this]; rfl
theorem zerosT_succ (x : ByteArray) (k : Nat) : (x ++ ⟨#[48]⟩) ++ zerosT k = x ++ zerosT (k + 1) := by
  apply Go.WideShapes.bytes_inj
  simp [zerosT, ByteArray.data_append, List.replicate_succ]
theorem padT_size {x : ByteArray} (h : x.size ≤ 4) : (padT x).size = 4 := by
  rw [padT, ByteArray.size_append]
  have : (zerosT (4 - x.size)).size = 4 - x.size := by
    show ((List.replicate (4 - x.size) (48 : UInt8)).toArray).size = _
    simp
  omega
theorem padT_full {x : ByteArray} (h : x.size = 4) : padT x = x := by
  apply Go.WideShapes.bytes_inj
  simp [padT, h, zerosT, ByteArray.data_append]
theorem soundT_size {t : List Int} {s : ByteArray} (hs : 0 < s.size) : (soundT t s).size = 4 := padT_size (sndT_size hs _).2

theorem low_at {s : ByteArray} (h : lowB s = true) {k : Nat} (hk : k < s.size) : 97 ≤ s[k].toNat ∧ s[k].toNat ≤ 122 := by
  rw [lowB, List.all_eq_true] at h
  have := h s[k] (by have e : s[k] = s.data.toList[k]'(by simpa using hk) := rfl
                     rw [e]; exact List.getElem_mem _)
  simp only [Bool.and_eq_true, decide_eq_true_eq, UInt8.le_iff_toNat_le] at this
  exact this
theorem sb_low {s : ByteArray} (h : lowB s = true) (k : Nat) : 97 ≤ sb s k ∧ sb s k ≤ 122 := by
  rw [sb]
  split
  · exact low_at h _
  · omega
theorem soundB_at {t : List Int} (h : soundB t = true) : t.length = 26 ∧ ∀ k, k < 26 → 0 ≤ nth t k ∧ nth t k ≤ 9 := by
  rw [soundB, Bool.and_eq_true, beq_iff_eq] at h
  refine ⟨h.1, fun k hk => ?_⟩
  have h2 := h.2
  rw [allIn, List.all_eq_true] at h2
  have := h2 (nth t k) (by rw [nth_eq (by omega)]; exact List.getElem_mem _)
  exact inB_iff.1 this
theorem dgA_bd {t : List Int} {s : ByteArray} (h : soundB t = true) (hl : lowB s = true) (i : Nat) : 0 ≤ dgA t s i ∧ dgA t s i ≤ 9 := (soundB_at h).2 _ (by have := sb_low hl i; omega)

set_option maxRecDepth 100000 in
theorem l01Dec_any (k : Nat) (w : World) (h : k < 10) :
    Calls Tryz.prog 72 #[.int .i64 k] w fun e w' => e = .returned (.string (digitT k)) ∧ Ext w w' := by
  have hcv := conv1 w (48 + (k : Int))
  have hk : (k : Int) < 10 := by omega
  go_enter Tryz.func72, Tryz.ntmps72
  go_wp2
  go_ret
  exact ⟨rfl, (Ext.refl _).alloc _⟩

theorem decimal_any (k : Nat) (w : World) (h : k < 10) :
    Calls Tryz.prog 70 #[.int .i64 k] w fun e w' => e = .returned (.string (digitT k)) ∧ w = w' := by
  have hd := Lib.decDigits_one h
  go_enter Tryz.func70, Tryz.ntmps70
  go_wp2_with fail
  refine (Tryz.strconv_FormatInt_10_small k (by omega) _).mono ?_
  rintro e w1 ⟨rfl, rfl⟩
  rw [hd]
  go_wp2
  go_ret
  exact ⟨by rw [show digitT (k : Int) = ⟨#[48 + UInt8.ofNat k]⟩ by simp [digitT, UInt8.ofNat_add]]; rfl, rfl⟩

theorem u8_sub {x : Nat} (h : 97 ≤ x) (h2 : x ≤ 122) : IntKind.u8.wrap ((x : Int) - 97) = ((x - 97 : Nat) : Int) := (IntWalk.u8_in _ (by omega)).trans (by omega)

set_option maxRecDepth 100000 in
set_option maxHeartbeats 2000000 in
theorem soundOf_any (a : Option Addr) (n c : Nat) (s : ByteArray) (t : List Int) (w : World) (hr : RdI w a n t) (hz : soundB t = true) (hw : wordB s = true) :
    Calls Tryz.prog 41 #[.slice a n c, .string s] w fun e w' => e = .returned (.string (soundT t s)) ∧ Ext w w' := by
  obtain ⟨hs1, hs2⟩ := wordB_size hw
  have hlow := wordB_low hw
  have hbd := fun i => dgA_bd hz hlow i
  have hl26 := (soundB_at hz).1
  have hn26 : n = 26 := hr.len.symm.trans hl26
  subst hn26
  have HL := Lib.hid (And.intro hlow hbd)
  clear hw hz hlow hbd
  have h10 : (1 : Int) ≤ s.size := by omega
  go_enter Tryz.func41, Tryz.ntmps41
  go_wp2
  go_loopw [5, 6] (fun u i wr => ∃ k : Nat, 1 ≤ k ∧ k ≤ s.size ∧ i = .int .i64 k ∧ u = .string (sndT t s (k - 1)) ∧ Ext w wr) (fun _ i _ => s.size - (intOf i).toNat)
  case atStart => exact ⟨1, Nat.le_refl _, hs1, rfl, rfl, Ext.refl _⟩
  case round =>
    obtain ⟨k, hk1, hk, rfl, rfl, hx⟩ := hrel
    have hsz := sndT_size (t := t) (s := s) (by omega) (k - 1)
    by_cases hlt : k < s.size
    · have hki : (k : Int) < s.size := by omega
      by_cases hf : (sndT t s (k - 1)).size < 4
      · have hfi : ((sndT t s (k - 1)).size : Int) < 4 := by omega
        obtain ⟨b, o, rfl, hbl, hc⟩ := (hr.ext hx).at (by omega)
        have hb0 := sb_low HL.out.1 (k - 1)
        have hb1 := sb_low HL.out.1 k
        have c0 := hc (sb s (k - 1) - 97) (by omega)
        have c1 := hc (sb s k - 97) (by omega)
        rw [show nth t (sb s (k - 1) - 97) = dgA t s (k - 1) from rfl] at c0
        rw [show nth t (sb s k - 97) = dgA t s k from rfl] at c1
        rw [sb_eq (by omega)] at c0 hb0
        rw [sb_eq hlt] at c1 hb1
        have q0 := u8_sub hb0.1 hb0.2
        have q1 := u8_sub hb1.1 hb1.2
        have q2 : IntKind.i64.wrap ((k : Int) - 1) = ((k - 1 : Nat) : Int) := (IntWalk.i64_in _ (by omega)).trans (by omega)
        have p1 : ((s[k].toNat - 97 : Nat) : Int) < (26 : Nat) := by omega
        have p0 : ((s[k - 1].toNat - 97 : Nat) : Int) < (26 : Nat) := by omega
        have p3 : ((k - 1 : Nat) : Int) < s.size := by omega
        have p4 : (0 : Int) ≤ ((s[k].toNat - 97 : Nat) : Int) := by omega
        have p5 : (0 : Int) ≤ ((s[k - 1].toNat - 97 : Nat) : Int) := by omega
        have p6 : (0 : Int) ≤ ((k - 1 : Nat) : Int) := by omega
        have hst : sndT t s k = if (sndT t s (k - 1)).size < 4 ∧ dgA t s k ≠ 0 ∧ dgA t s k ≠ dgA t s (k - 1) then sndT t s (k - 1) ++ digitT (dgA t s k) else sndT t s (k - 1) := by
          obtain ⟨j, rfl⟩ : ∃ j, k = j + 1 := ⟨k - 1, by omega⟩
          rfl
        obtain ⟨d, hd⟩ := Int.eq_ofNat_of_zero_le (HL.out.2 k).1
        have hd9 := (HL.out.2 k).2
        rw [hd] at c1 hst hd9
        have hd10 : d < 10 := by omega
        clear hc hb0 hb1 hd9
        by_cases h0 : d = 0
        · subst h0
          have hsame : sndT t s k = sndT t s (k - 1) := by rw [hst, if_neg (fun h => h.2.1 rfl)]
          have HS := Lib.hid hsame
          clear hst hsame hd
          go_wp2
          go_roundw
          case rel => exact ⟨k + 1, by omega, by omega, by go_num, by rw [Nat.add_sub_cancel, HS.out], hx⟩
          case measure => simp [intOf]; omega
        · have z1 : ((d : Int) != 0) = true := by simp; omega
          have z2 : (0 : Int) < d := by omega
          by_cases h1 : (d : Int) = dgA t s (k - 1)
          · have z3 : ((d : Int) != dgA t s (k - 1)) = false := by simpa using h1
            have hsame : sndT t s k = sndT t s (k - 1) := by rw [hst, if_neg (fun h => h.2.2 h1)]
            have HS := Lib.hid (And.intro hsame h1)
            clear hst hsame hd h1
            go_wp2
            go_roundw
            case rel => exact ⟨k + 1, by omega, by omega, by go_num, by rw [Nat.add_sub_cancel, HS.out.1], hx⟩
            case measure => simp [intOf]; omega
          · have z3 : ((d : Int) != dgA t s (k - 1)) = true := by simpa using h1
            have hnew : sndT t s k = sndT t s (k - 1) ++ digitT d := by rw [hst, if_pos ⟨hf, by omega, h1⟩]
            have HS := Lib.hid (And.intro hnew h1)
            have hds := digitT_size d
            clear hst hnew hd h1
            go_wp2_with (first | (go_at_call 70; refine (decimal_any d _ (by omega)).mono ?_; rintro e w1 ⟨rfl, rfl⟩; have hx1 := Ext.refl wr))
            go_roundw
            case rel => exact ⟨k + 1, by omega, by omega, by go_num, by rw [Nat.add_sub_cancel, HS.out.1], hx.trans hx1⟩
            case measure => simp [intOf]; omega
      · have hfi : ¬ ((sndT t s (k - 1)).size : Int) < 4 := by omega
        have h4 : (sndT t s (k - 1)).size = 4 := by omega
        have hfin : soundT t s = sndT t s (k - 1) := by
          have := sndT_full (t := t) (s := s) (k := k - 1) (by omega) (s.size - 1 - (k - 1))
          rw [soundT, show s.size - 1 = k - 1 + (s.size - 1 - (k - 1)) by omega, this, padT_full h4]
        have HF := Lib.hid hfin
        clear hfin
        go_wp2_with fail
        refine (Tryz.strings_Repeat_zero ⟨#[48]⟩ _).mono ?_
        rintro e w1 ⟨rfl, rfl⟩
        have happ : sndT t s (k - 1) ++ (⟨#[]⟩ : ByteArray) = sndT t s (k - 1) := by
          apply Go.WideShapes.bytes_inj
          simp [ByteArray.data_append]
        go_wp2
        go_ret
        exact ⟨by rw [HF.out]; first | rfl | (rw [happ]; rfl) | exact congrArg (fun x => Ending.returned (Value.string x)) happ, hx⟩
    · have hks : k = s.size := by omega
      have hfin : soundT t s = padT (sndT t s (k - 1)) := by rw [hks]; rfl
      have hki : ¬ (k : Int) < s.size := by omega
      clear hks
      have HF := Lib.hid hfin
      clear hfin
      have q9 : IntKind.i64.wrap (4 - ((sndT t s (k - 1)).size : Int)) = ((4 - (sndT t s (k - 1)).size : Nat) : Int) := (IntWalk.i64_in _ (by omega)).trans (by omega)
      have zsz : (zerosT (4 - (sndT t s (k - 1)).size)).size = 4 - (sndT t s (k - 1)).size := by
        show ((List.replicate (4 - (sndT t s (k - 1)).size) (48 : UInt8)).toArray).size = _
        simp
      go_wp2_with fail
      refine (Tryz.strings_Repeat ⟨#[48]⟩ (4 - (sndT t s (k - 1)).size) _ (by omega) (by show 1 * _ ≤ _; omega)).mono ?_
      rintro e w1 ⟨rfl, hb1⟩
      rw [repeat_zeros]
      go_wp2
      go_ret
      exact ⟨by rw [HF.out]; rfl, hx.trans hb1⟩

set_option maxRecDepth 100000 in
set_option maxHeartbeats 2000000 in
theorem l07Sound_any (a : Option Addr) (n c : Nat) (s : ByteArray) (t : List Int) (w : World) (hr : RdI w a n t) (hz : soundB t = true) (hw : wordB s = true) :
    Calls Tryz.prog 43 #[.slice a n c, .string s] w fun e w' => e = .returned (.string (soundT t s)) ∧ Ext w w' := by
  obtain ⟨hs1, hs2⟩ := wordB_size hw
  have hlow := wordB_low hw
  have hbd := fun i => dgA_bd hz hlow i
  have hl26 := (soundB_at hz).1
  have hn26 : n = 26 := hr.len.symm.trans hl26
  subst hn26
  have HL := Lib.hid (And.intro hlow hbd)
  clear hw hz hlow hbd
  have h10 : (1 : Int) ≤ s.size := by omega
  go_enter Tryz.func43, Tryz.ntmps43
  go_wp2
  go_loopw [5, 6] (fun u i wr => ∃ k : Nat, 1 ≤ k ∧ k ≤ s.size ∧ i = .int .i64 k ∧ u = .string (sndT t s (k - 1)) ∧ Ext w wr) (fun _ i _ => s.size - (intOf i).toNat)
  case atStart => exact ⟨1, Nat.le_refl _, hs1, rfl, rfl, Ext.refl _⟩
  case round =>
    obtain ⟨k, hk1, hk, rfl, rfl, hx⟩ := hrel
    have hsz := sndT_size (t := t) (s := s) (by omega) (k - 1)
    by_cases hlt : k < s.size
    · have hki : (k : Int) < s.size := by omega
      by_cases hf : (sndT t s (k - 1)).size < 4
      · have hfi : ((sndT t s (k - 1)).size : Int) < 4 := by omega
        obtain ⟨b, o, rfl, hbl, hc⟩ := (hr.ext hx).at (by omega)
        have hb0 := sb_low HL.out.1 (k - 1)
        have hb1 := sb_low HL.out.1 k
        have c0 := hc (sb s (k - 1) - 97) (by omega)
        have c1 := hc (sb s k - 97) (by omega)
        rw [show nth t (sb s (k - 1) - 97) = dgA t s (k - 1) from rfl] at c0
        rw [show nth t (sb s k - 97) = dgA t s k from rfl] at c1
        rw [sb_eq (by omega)] at c0 hb0
        rw [sb_eq hlt] at c1 hb1
        have q0 := u8_sub hb0.1 hb0.2
        have q1 := u8_sub hb1.1 hb1.2
        have q2 : IntKind.i64.wrap ((k : Int) - 1) = ((k - 1 : Nat) : Int) := (IntWalk.i64_in _ (by omega)).trans (by omega)
        have p1 : ((s[k].toNat - 97 : Nat) : Int) < (26 : Nat) := by omega
        have p0 : ((s[k - 1].toNat - 97 : Nat) : Int) < (26 : Nat) := by omega
        have p3 : ((k - 1 : Nat) : Int) < s.size := by omega
        have p4 : (0 : Int) ≤ ((s[k].toNat - 97 : Nat) : Int) := by omega
        have p5 : (0 : Int) ≤ ((s[k - 1].toNat - 97 : Nat) : Int) := by omega
        have p6 : (0 : Int) ≤ ((k - 1 : Nat) : Int) := by omega
        have hst : sndT t s k = if (sndT t s (k - 1)).size < 4 ∧ dgA t s k ≠ 0 ∧ dgA t s k ≠ dgA t s (k - 1) then sndT t s (k - 1) ++ digitT (dgA t s k) else sndT t s (k - 1) := by
          obtain ⟨j, rfl⟩ : ∃ j, k = j + 1 := ⟨k - 1, by omega⟩
          rfl
        obtain ⟨d, hd⟩ := Int.eq_ofNat_of_zero_le (HL.out.2 k).1
        have hd9 := (HL.out.2 k).2
        rw [hd] at c1 hst hd9
        have hd10 : d < 10 := by omega
        clear hc hb0 hb1 hd9
        by_cases h0 : d = 0
        · subst h0
          have hsame : sndT t s k = sndT t s (k - 1) := by rw [hst, if_neg (fun h => h.2.1 rfl)]
          have HS := Lib.hid hsame
          clear hst hsame hd
          go_wp2
          go_roundw
          case rel => exact ⟨k + 1, by omega, by omega, by go_num, by rw [Nat.add_sub_cancel, HS.out], hx⟩
          case measure => simp [intOf]; omega
        · have z1 : ((d : Int) != 0) = true := by simp; omega
          have z2 : (0 : Int) < d := by omega
          by_cases h1 : (d : Int) = dgA t s (k - 1)
          · have z3 : ((d : Int) != dgA t s (k - 1)) = false := by simpa using h1
            have hsame : sndT t s k = sndT t s (k - 1) := by rw [hst, if_neg (fun h => h.2.2 h1)]
            have HS := Lib.hid (And.intro hsame h1)
            clear hst hsame hd h1
            go_wp2
            go_roundw
            case rel => exact ⟨k + 1, by omega, by omega, by go_num, by rw [Nat.add_sub_cancel, HS.out.1], hx⟩
            case measure => simp [intOf]; omega
          · have z3 : ((d : Int) != dgA t s (k - 1)) = true := by simpa using h1
            have hnew : sndT t s k = sndT t s (k - 1) ++ digitT d := by rw [hst, if_pos ⟨hf, by omega, h1⟩]
            have HS := Lib.hid (And.intro hnew h1)
            have hds := digitT_size d
            clear hst hnew hd h1
            go_wp2_with (first | (go_at_call 72; refine (l01Dec_any d _ (by omega)).mono ?_; rintro e w1 ⟨rfl, hx1⟩))
            go_roundw
            case rel => exact ⟨k + 1, by omega, by omega, by go_num, by rw [Nat.add_sub_cancel, HS.out.1], hx.trans hx1⟩
            case measure => simp [intOf]; omega
      · have hfi : ¬ ((sndT t s (k - 1)).size : Int) < 4 := by omega
        have h4 : (sndT t s (k - 1)).size = 4 := by omega
        have hfin : soundT t s = sndT t s (k - 1) := by
          have := sndT_full (t := t) (s := s) (k := k - 1) (by omega) (s.size - 1 - (k - 1))
          rw [soundT, show s.size - 1 = k - 1 + (s.size - 1 - (k - 1)) by omega, this, padT_full h4]
        have HF := Lib.hid (hfin.trans (padT_full h4).symm)
        clear hfin
        go_wp2
        go_loopw [5] (fun u wi => ∃ x : ByteArray, u = .string x ∧ x.size ≤ 4 ∧ padT x = soundT t s ∧ wr = wi) (fun u _ => 4 - (match u with | .string x => x.size | _ => 0))
        case atStart => exact ⟨_, rfl, hsz.2, HF.out.symm, rfl⟩
        case round =>
          obtain ⟨x, rfl, hx4, hpx, rfl⟩ := hrel
          have HX := Lib.hid hpx
          clear hpx
          by_cases hxx : x.size < 4
          · have hxi : (x.size : Int) < 4 := by omega
            go_wp2
            go_roundw
            case rel =>
              refine ⟨x ++ ⟨#[48]⟩, rfl, by rw [ByteArray.size_append]; show x.size + 1 ≤ 4; omega, ?_, trivial⟩
              rw [← HX.out, padT, padT, ByteArray.size_append, show (⟨#[48]⟩ : ByteArray).size = 1 from rfl, zerosT_succ, show 4 - (x.size + 1) + 1 = 4 - x.size by omega]
            case measure =>
              simp only [ByteArray.size_append]
              show 4 - (x.size + 1) < 4 - x.size
              omega
          · have hxi : ¬ (x.size : Int) < 4 := by omega
            go_wp2
            go_ret
            exact ⟨by rw [← HX.out, padT_full (by omega)]; rfl, hx⟩
    · have hks : k = s.size := by omega
      have hfin : soundT t s = padT (sndT t s (k - 1)) := by rw [hks]; rfl
      have HF := Lib.hid hfin
      clear hfin
      go_wp2
      go_loopw [5] (fun u wi => ∃ x : ByteArray, u = .string x ∧ x.size ≤ 4 ∧ padT x = soundT t s ∧ wr = wi) (fun u _ => 4 - (match u with | .string x => x.size | _ => 0))
      case atStart => exact ⟨_, rfl, hsz.2, HF.out.symm, rfl⟩
      case round =>
        obtain ⟨x, rfl, hx4, hpx, rfl⟩ := hrel
        have HX := Lib.hid hpx
        clear hpx
        by_cases hxx : x.size < 4
        · have hxi : (x.size : Int) < 4 := by omega
          go_wp2
          go_roundw
          case rel =>
            refine ⟨x ++ ⟨#[48]⟩, rfl, by rw [ByteArray.size_append]; show x.size + 1 ≤ 4; omega, ?_, trivial⟩
            rw [← HX.out, padT, padT, ByteArray.size_append, show (⟨#[48]⟩ : ByteArray).size = 1 from rfl, zerosT_succ, show 4 - (x.size + 1) + 1 = 4 - x.size by omega]
          case measure =>
            simp only [ByteArray.size_append]
            show 4 - (x.size + 1) < 4 - x.size
            omega
        · have hxi : ¬ (x.size : Int) < 4 := by omega
          go_wp2
          go_ret
          exact ⟨by rw [← HX.out, padT_full (by omega)]; rfl, hx⟩

end Go.Proofs.YtfglmoedicijkaaGreatDoor

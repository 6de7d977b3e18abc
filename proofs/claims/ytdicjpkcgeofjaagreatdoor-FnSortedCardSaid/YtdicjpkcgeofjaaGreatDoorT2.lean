/-
  Words: the tests of the program and of the reference; the statements' own helpers on slices of strings that count and mark.
-/
import Derived.Test.YtdicjpkcgeofjaaGreatDoorM0
import Derived.Shelf.Strings.SlTrimAscii
import Derived.Test.YtdicjpkcgeofjaaGreatDoorShelf
namespace Go.Proofs.YtdicjpkcgeofjaaGreatDoor
open Go.RowKit

/-- Only the letters a to z. -/
def lowB (s : ByteArray) : Bool := s.data.toList.all fun c => 97 ≤ c && c ≤ 122
def smallB (s : ByteArray) (lo hi : Int) : Bool := inB s.size lo hi && lowB s
def wordB (s : ByteArray) : Bool := smallB s 1 16

theorem lowB_bad {s : ByteArray} {k : Nat} (hk : k < s.size) (h : (s[k].toNat : Int) < 97 ∨ (122 : Int) < s[k].toNat) : lowB s = false := by
  rw [lowB, List.all_eq_false]
  refine ⟨s[k], ?_, ?_⟩
  · show s.data[k] ∈ s.data.toList
    simp
  · simp [UInt8.le_iff_toNat_le]
    omega
theorem lowB_good {s : ByteArray} (h : ∀ k (hk : k < s.size), 97 ≤ (s[k].toNat : Int) ∧ (s[k].toNat : Int) ≤ 122) : lowB s = true := by
  rw [lowB, List.all_eq_true]
  intro c hc
  obtain ⟨k, hk, rfl⟩ := List.getElem_of_mem hc
  have := h k (by simpa using hk)
  have e : s[k]'(by simpa using hk) = s.data.toList[k] := by simp; rfl
  rw [e] at this
  simp [UInt8.le_iff_toNat_le]
  simp at this
  omega

set_option maxHeartbeats 400000 in
theorem specIsWord_any (s : ByteArray) (w : World) (hs : s.size ≤ 9223372036854775807) :
    Calls Tryz.prog 79 #[.string s] w fun e w' => e = .returned (.bool (wordB s)) ∧ w = w' := by
  go_enter Tryz.func79, Tryz.ntmps79
  go_wp2
  go_loop [3] (fun i => ∃ k : Nat, k ≤ s.size ∧ i = .int .i64 k ∧ ∀ j (hj : j < s.size), j < k → 97 ≤ (s[j].toNat : Int) ∧ (s[j].toNat : Int) ≤ 122) (fun i => s.size - (intOf i).toNat)
  case atStart => exact ⟨0, Nat.zero_le _, rfl, fun j _ h => by omega⟩
  case round =>
    obtain ⟨k, hk, rfl, hall⟩ := hrel
    have HA := Lib.hid hall
    clear hall
    by_cases hlt : k < s.size
    · by_cases h1 : (s[k].toNat : Int) < 97
      · go_wp2
        go_ret
        exact ⟨ret_bool (by rw [wordB, smallB, lowB_bad hlt (.inl h1), Bool.and_false]), rfl⟩
      · by_cases h2 : (122 : Int) < s[k].toNat
        · go_wp2
          go_ret
          exact ⟨ret_bool (by rw [wordB, smallB, lowB_bad hlt (.inr h2), Bool.and_false]), rfl⟩
        · go_wp2
          go_round
          case rel =>
            refine ⟨k + 1, by omega, by go_num, fun j hj hjk => ?_⟩
            by_cases e : j = k
            · subst e; omega
            · exact HA.out j hj (by omega)
          case measure => simp [intOf]; omega
    · obtain rfl : k = s.size := by omega
      go_wp2_with (first | (go_at_call 50; refine (l01In_any _ _ _ _).mono ?_; rintro e w' ⟨rfl, rfl⟩))
      go_ret
      exact ⟨ret_bool (by rw [wordB, smallB, lowB_good (fun j hj => HA.out j hj hj), Bool.and_true]), rfl⟩

/-- The cutset a to z, and what strings.Trim leaves at it. -/
def abc : List UInt8 := [97, 98, 99, 100, 101, 102, 103, 104, 105, 106, 107, 108, 109, 110, 111, 112, 113, 114, 115, 116, 117, 118, 119, 120, 121, 122]
theorem abc_has (c : UInt8) : abc.contains c = (97 ≤ c && c ≤ 122) := by
  have key : ∀ n : Fin 256, abc.contains (UInt8.ofNat n.val) = (97 ≤ UInt8.ofNat n.val && UInt8.ofNat n.val ≤ 122) := by decide +kernel
  have := key ⟨c.toNat, c.toNat_lt⟩
  simpa using this
theorem dropWhile_nil {l : List UInt8} {p : UInt8 → Bool} : l.dropWhile p = [] ↔ l.all p = true := by
  induction l with
  | nil => simp
  | cons x xs ih =>
    rw [List.dropWhile_cons, List.all_cons]
    cases h : p x <;> simp [ih]
theorem trimS_nil (l : List UInt8) : Lib.trimS l abc = [] ↔ l.all (fun c => 97 ≤ c && c ≤ 122) = true := by
  have e : (fun c => abc.contains c) = (fun c : UInt8 => 97 ≤ c && c ≤ 122) := funext abc_has
  unfold Lib.trimS Lib.trimLeftS Lib.trimRightS
  rw [e, dropWhile_nil, List.all_reverse]
  constructor
  · intro h
    have h2 : (l.reverse.dropWhile fun c => 97 ≤ c && c ≤ 122) = [] := by
      cases hd : l.reverse.dropWhile fun c => 97 ≤ c && c ≤ 122 with
      | nil => rfl
      | cons x xs =>
        exfalso
        have h3 := List.head?_dropWhile_not (p := fun c : UInt8 => 97 ≤ c && c ≤ 122) l.reverse
        rw [hd] at h3 h
        simp only [List.head?_cons] at h3
        rw [List.all_cons, Bool.and_eq_true] at h
        simp_all
    rw [dropWhile_nil, List.all_reverse] at h2
    exact h2
  · intro h
    have h2 : (l.reverse.dropWhile fun c => 97 ≤ c && c ≤ 122) = [] := by rw [dropWhile_nil, List.all_reverse]; exact h
    rw [h2]; rfl

set_option maxHeartbeats 400000 in
theorem isSmall_any (s : ByteArray) (lo hi : Int) (w : World) (hs : s.size ≤ 9223372036854775807) :
    Calls Tryz.prog 83 #[.string s, .int .i64 lo, .int .i64 hi] w fun e w' => e = .returned (.bool (smallB s lo hi)) ∧ Ext w w' := by
  cases hb : inB s.size lo hi
  · have HB := Lib.hid hb
    clear hb
    go_enter Tryz.func83, Tryz.ntmps83
    go_wp2_with (first | (go_at_call 85; refine (within_any _ _ _ _).mono ?_; rintro e w' ⟨rfl, rfl⟩; rw [HB.out]))
    go_ret
    exact ⟨ret_bool (by rw [smallB, HB.out]; rfl), Ext.refl _⟩
  · have HB := Lib.hid hb
    clear hb
    cases hl : lowB s
    · have ht : ∃ x xs, Lib.trimS s.data.toList abc = x :: xs := by
        cases h : Lib.trimS s.data.toList abc with
        | nil =>
          have := (trimS_nil s.data.toList).1 h
          rw [← lowB, hl] at this
          cases this
        | cons x xs => exact ⟨x, xs, rfl⟩
      obtain ⟨x, xs, ht⟩ := ht
      have HT := Lib.hid (And.intro ht hl)
      clear ht hl
      go_enter Tryz.func83, Tryz.ntmps83
      go_wp2_with (first | (go_at_call 85; refine (within_any _ _ _ _).mono ?_; rintro e w' ⟨rfl, rfl⟩; rw [HB.out]))
      refine (Tryz.strings_Trim_laid s ⟨abc.toArray⟩ _ hs (by decide) (ascii_of_all (by decide))).mono ?_
      rintro e w1 ⟨rfl, hx⟩
      rw [show Lib.trimS s.data.toList (⟨abc.toArray⟩ : ByteArray).data.toList = x :: xs from HT.out.1]
      go_wp2
      go_ret
      exact ⟨ret_bool (by rw [smallB, HT.out.2, Bool.and_false]), hx⟩
    · have ht : Lib.trimS s.data.toList abc = [] := (trimS_nil s.data.toList).2 hl
      have HT := Lib.hid (And.intro ht hl)
      clear ht hl
      go_enter Tryz.func83, Tryz.ntmps83
      go_wp2_with (first | (go_at_call 85; refine (within_any _ _ _ _).mono ?_; rintro e w' ⟨rfl, rfl⟩; rw [HB.out]))
      refine (Tryz.strings_Trim_laid s ⟨abc.toArray⟩ _ hs (by decide) (ascii_of_all (by decide))).mono ?_
      rintro e w1 ⟨rfl, hx⟩
      rw [show Lib.trimS s.data.toList (⟨abc.toArray⟩ : ByteArray).data.toList = [] from HT.out.1]
      go_wp2
      go_ret
      exact ⟨ret_bool (by rw [smallB, HT.out.2, HB.out]; rfl), hx⟩

theorem implIsWord_any (s : ByteArray) (w : World) (hs : s.size ≤ 9223372036854775807) :
    Calls Tryz.prog 129 #[.string s] w fun e w' => e = .returned (.bool (wordB s)) ∧ Ext w w' := by
  go_enter Tryz.func129, Tryz.ntmps129
  go_wp2_with (first | (go_at_call 83; refine (isSmall_any _ _ _ _ hs).mono ?_; rintro e w1 ⟨rfl, hx⟩))
  go_ret
  exact ⟨rfl, hx⟩

end Go.Proofs.YtdicjpkcgeofjaaGreatDoor

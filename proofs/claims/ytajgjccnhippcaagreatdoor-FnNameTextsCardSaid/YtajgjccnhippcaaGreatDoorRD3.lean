/-
  The reference's reading of numbers.
-/
import Derived.Test.YtajgjccnhippcaaGreatDoorRD2
namespace Go.Proofs.YtajgjccnhippcaaGreatDoor
open Go.RowKit

def pref (s : ByteArray) (k : Nat) : Option Nat := Lib.decFrom 0 (s.data.toList.take k)
theorem digit_ok {b : UInt8} (h1 : 48 ≤ b.toNat) (h2 : b.toNat ≤ 57) : Lib.digitVal b = some (b.toNat - 48) := by
  rw [Lib.digitVal, if_pos]
  exact ⟨h1, h2⟩
theorem pref_zero (s : ByteArray) : pref s 0 = some 0 := rfl
theorem pref_step {s : ByteArray} {k n : Nat} (hk : k < s.size) (h : pref s k = some n) (h1 : 48 ≤ s[k].toNat) (h2 : s[k].toNat ≤ 57) : pref s (k + 1) = some (10 * n + (s[k].toNat - 48)) := by
  have hk' : k < s.data.toList.length := hk
  rw [pref, List.take_succ_eq_append_getElem hk', decFrom_append]
  rw [pref] at h
  rw [h, Option.bind_some, Lib.decFrom, show s.data.toList[k] = s[k] from rfl, digit_ok h1 h2]
  simp [Lib.decFrom, Nat.mul_comm]
theorem pref_all (s : ByteArray) : pref s s.size = Lib.decFrom 0 s.data.toList := by rw [pref, List.take_of_length_le]; exact Nat.le_refl _
def isNum (s : ByteArray) (n : Nat) : Prop := Lib.decDigits n = s.data.toList
theorem isNum_digit {s : ByteArray} {n k : Nat} (h : isNum s n) (hk : k < s.size) : 48 ≤ s[k].toNat ∧ s[k].toNat ≤ 57 :=
  dec_chars n s[k] (by rw [h]; exact List.getElem_mem (l := s.data.toList) hk)
theorem isNum_size {s : ByteArray} {n : Nat} (h : isNum s n) (hn : n ≤ 9999999999999) : 1 ≤ s.size ∧ s.size ≤ 13 := by
  have h1 := dec_len (k := 12) (u := n) (by omega)
  have h2 := dec_ne n
  rw [h] at h1 h2
  refine ⟨?_, h1⟩
  exact List.length_pos_iff.2 h2
theorem isNum_val {s : ByteArray} {n m : Nat} (h : isNum s n) (hm : pref s s.size = some m) : m = n := by
  rw [pref_all, ← h, dec_val] at hm
  exact (Option.some.inj hm).symm

def RetVal (s : ByteArray) (w : World) (e : Ending) (w' : World) : Prop :=
  ∃ (v : Nat) (ok : Bool), e = .returned (.tuple #[.int .i64 v, .bool ok]) ∧ v ≤ 10000000000000 ∧ (ok = true → isNum s v) ∧ (ok = false → ∀ n, n ≤ 9999999999999 → ¬ isNum s n) ∧ Ext w w'

set_option maxRecDepth 100000 in
set_option maxHeartbeats 1000000 in
theorem l01Value_any (s : ByteArray) (w : World) (hs : s.size ≤ 1073741824) :
    Calls Tryz.prog 95 #[.string s] w (RetVal s w) := by
  by_cases h0 : s.size < 1
  · have h1 : (s.size : Int) < 1 := by omega
    go_enter Tryz.func95, Tryz.ntmps95
    go_wp2
    go_ret2
    exact ⟨0, false, rfl, by omega, (fun h => absurd h (by decide)), fun _ n hn h => by have := isNum_size h hn; omega, Ext.refl _⟩
  by_cases h13 : 13 < s.size
  · have h1 : ¬ (s.size : Int) < 1 := by omega
    have h2 : (13 : Int) < s.size := by omega
    clear h0
    go_enter Tryz.func95, Tryz.ntmps95
    go_wp2
    go_ret2
    exact ⟨0, false, rfl, by omega, (fun h => absurd h (by decide)), fun _ n hn h => by have := isNum_size h hn; omega, Ext.refl _⟩
  have h1 : ¬ (s.size : Int) < 1 := by omega
  have h2 : ¬ (13 : Int) < s.size := by omega
  clear h0
  go_enter Tryz.func95, Tryz.ntmps95
  go_wp2
  go_loopw [4, 5] (fun a i wr => ∃ (k n : Nat), k ≤ s.size ∧ i = .int .i64 k ∧ a = .int .i64 n ∧ n < 10 ^ k ∧ pref s k = some n ∧ wr = w) (fun _ i _ => s.size - (intOf i).toNat)
  case atStart => exact ⟨0, 0, Nat.zero_le _, rfl, rfl, (by decide), pref_zero s, rfl⟩
  case round =>
    obtain ⟨k, n, hk, rfl, rfl, hn, hp, rfl⟩ := hrel
    by_cases hlt : k < s.size
    · have hki : (k : Int) < s.size := by omega
      have hp10 : 10 ^ k ≤ 10 ^ 12 := Nat.pow_le_pow_right (by decide) (by omega)
      have hn12 : n < 1000000000000 := by omega
      by_cases d1 : s[k].toNat < 48
      · have d1' : (s[k].toNat : Int) < 48 := by omega
        go_wp2
        go_ret2
        exact ⟨0, false, rfl, by omega, (fun h => absurd h (by decide)), fun _ n hn h => by have := isNum_digit h hlt; omega, Ext.refl _⟩
      by_cases d2 : 57 < s[k].toNat
      · have d1' : ¬ (s[k].toNat : Int) < 48 := by omega
        have d2' : (57 : Int) < (s[k].toNat : Int) := by omega
        go_wp2
        go_ret2
        exact ⟨0, false, rfl, by omega, (fun h => absurd h (by decide)), fun _ n hn h => by have := isNum_digit h hlt; omega, Ext.refl _⟩
      have d1' : ¬ (s[k].toNat : Int) < 48 := by omega
      have d2' : ¬ (57 : Int) < (s[k].toNat : Int) := by omega
      have HP := Lib.hid (pref_step hlt hp (by omega) (by omega))
      have H10 := Lib.hid (show 10 * n + (s[k].toNat - 48) < 10 ^ (k + 1) by rw [Nat.pow_succ]; omega)
      clear hp hn hp10
      go_wp2
      refine ⟨⟨k + 1, 10 * n + (s[k].toNat - 48), by omega, by go_num, ?_, H10.out, HP.out, trivial⟩, ?_⟩
      · rw [show (10 * (n : Int) + ((s[k].toNat : Int) - 48)) = ((10 * n + (s[k].toNat - 48) : Nat) : Int) by omega]
      · simp only [intOf]; omega
    · obtain rfl : k = s.size := by omega
      have hp10 : 10 ^ s.size ≤ 10 ^ 13 := Nat.pow_le_pow_right (by decide) (by omega)
      have hn13 : n ≤ 10000000000000 := by omega
      have HP := Lib.hid hp
      have hq : ((decB n).toList == s.toList) = decide (Lib.decDigits n = s.data.toList) := by
        rw [ByteArray.toList_eq, ByteArray.toList_eq]
        show (Lib.decDigits n == s.data.toList) = _
        rw [Bool.eq_iff_iff]; simp
      have HQ := Lib.hid hq
      clear hp hn hp10 hq
      go_wp2_with fail
      refine (l01DecN_any n _ (by omega)).mono ?_
      rintro e w1 ⟨rfl, e1⟩
      go_wp2
      go_ret2
      refine ⟨n, _, rfl, hn13, fun h => ?_, fun h m hm hx => ?_, e1⟩
      · rw [HQ.out] at h; exact of_decide_eq_true (p := Lib.decDigits n = s.data.toList) h
      · rw [HQ.out] at h
        have := isNum_val hx HP.out
        subst this
        exact of_decide_eq_false (p := Lib.decDigits n = s.data.toList) h hx

def RetSgn (s : ByteArray) (w : World) (e : Ending) (w' : World) : Prop :=
  ∃ (v : Int) (ok : Bool), e = .returned (.tuple #[.int .i64 v, .bool ok]) ∧ (-10000000000000 ≤ v ∧ v ≤ 10000000000000) ∧ (ok = true → Lib.itoa v = s.data.toList) ∧ (ok = false → ∀ n : Int, -9999999999999 ≤ n → n ≤ 9999999999999 → Lib.itoa n ≠ s.data.toList) ∧ Ext w w'
theorem sgn_empty {s : ByteArray} (h : s.size = 0) (n : Int) : Lib.itoa n ≠ s.data.toList := fun hx => by
  have : s.data.toList.length = 0 := h
  exact itoa_ne n (by rw [hx]; exact List.eq_nil_of_length_eq_zero this)
theorem tail_list {s : ByteArray} (h : 0 < s.size) : s.data.toList = s[0] :: (s.extract 1 s.size).data.toList := by
  have hz : 0 < s.data.toList.length := h
  rw [extract_list]
  cases hl : s.data.toList with
  | nil => rw [hl] at hz; exact absurd hz (by simp)
  | cons x l =>
    have : s[0] = x := by
      have e : s.data.toList[0]? = some x := by rw [hl]; rfl
      have : s.data.toList[0]'hz = x := by rw [List.getElem?_eq_getElem hz] at e; exact Option.some.inj e
      exact this
    rw [this]
    have hsz : s.size = l.length + 1 := by show s.data.toList.length = _; rw [hl]; rfl
    simp [hsz]
theorem sgn_minus {s : ByteArray} {v : Nat} (h : 0 < s.size) (h0 : s[0] = 45) (hv : 0 < v) (hn : isNum (s.extract 1 s.size) v) : Lib.itoa (-(v : Int)) = s.data.toList := by
  rw [itoa_minus (by omega), tail_list h, h0, ← hn]
  simp
theorem sgn_minus_no {s : ByteArray} {n : Int} (h : 0 < s.size) (h0 : s[0] = 45) (hx : Lib.itoa n = s.data.toList) : n < 0 ∧ isNum (s.extract 1 s.size) n.natAbs := by
  rw [tail_list h, h0] at hx
  by_cases hn : n < 0
  · rw [itoa_minus hn] at hx
    exact ⟨hn, (List.cons.inj hx).2⟩
  · rw [itoa_pos (by omega)] at hx
    have := dec_chars n.toNat 45 (by rw [hx]; simp)
    exact absurd this.1 (by decide)
theorem sgn_plus {s : ByteArray} {n : Int} (h0 : ¬ (∃ h : 0 < s.size, s[0] = 45)) (hx : Lib.itoa n = s.data.toList) : 0 ≤ n ∧ isNum s n.toNat := by
  by_cases hn : n < 0
  · exfalso
    rw [itoa_minus hn] at hx
    have h : 0 < s.size := by show 0 < s.data.toList.length; rw [← hx]; simp
    rw [tail_list h] at hx
    exact h0 ⟨h, (List.cons.inj hx).1.symm⟩
  · exact ⟨by omega, by rw [isNum, ← hx, itoa_pos (by omega)]⟩

set_option maxRecDepth 100000 in
set_option maxHeartbeats 1000000 in
theorem l01Signed_any (s : ByteArray) (w : World) (hs : s.size ≤ 1073741824) :
    Calls Tryz.prog 136 #[.string s] w (RetSgn s w) := by
  by_cases hm : ∃ h : 0 < s.size, s[0] = 45
  · obtain ⟨h, h0⟩ := hm
    have hi : (0 : Int) < s.size := by omega
    have h45 : (s[0].toNat : Int) = 45 := by rw [h0]; rfl
    have H := Lib.hid (And.intro (fun (v : Nat) => sgn_minus (v := v) h h0) (fun (n : Int) => sgn_minus_no (n := n) h h0))
    have hxs : (s.extract 1 s.size).size ≤ 1073741824 := by rw [ByteArray.size_extract]; omega
    have h1 : (1 : Int) ≤ s.size := by omega
    clear h0
    go_enter Tryz.func136, Tryz.ntmps136
    go_wp2_with fail
    refine (l01Value_any _ _ hxs).mono ?_
    rintro e w1 ⟨v, ok, rfl, hv, hok, hno, e1⟩
    have hw : IntKind.i64.wrap (-(v : Int)) = -(v : Int) := IntWalk.i64_in _ (by omega)
    have HO := Lib.hid (And.intro hok hno)
    clear hok hno
    cases ok
    · go_wp2
      go_ret2
      refine ⟨-(v : Int), false, rfl, by omega, (fun h => absurd h (by decide)), fun _ n hn0 hn1 hx => ?_, e1⟩
      have := H.out.2 n hx
      exact HO.out.2 (by trivial) n.natAbs (by omega) this.2
    · go_wp2
      go_ret2
      refine ⟨-(v : Int), decide (0 < v), rfl, by omega, fun h => H.out.1 v (of_decide_eq_true h) (HO.out.1 (by trivial)), fun h n hn0 hn1 hx => ?_, e1⟩
      have h0 := of_decide_eq_false h
      have h2 := H.out.2 n hx
      have h3 := dec_inj ((HO.out.1 (by trivial)).trans h2.2.symm)
      omega
  · have H := Lib.hid (fun (n : Int) => sgn_plus (n := n) hm)
    by_cases h : 0 < s.size
    · have hi : (0 : Int) < s.size := by omega
      have h45 : ¬ (s[0].toNat : Int) = 45 := fun hh => hm ⟨h, by
        have : s[0].toNat = 45 := by omega
        exact UInt8.toNat_inj.1 this⟩
      clear hm
      go_enter Tryz.func136, Tryz.ntmps136
      go_wp2_with fail
      refine (l01Value_any _ _ hs).mono ?_
      rintro e w1 ⟨v, ok, rfl, hv, hok, hno, e1⟩
      have HO := Lib.hid (And.intro hok hno)
      clear hok hno
      go_wp2
      go_ret2
      refine ⟨v, ok, rfl, by omega, fun h => ?_, fun h n hn0 hn1 hx => ?_, e1⟩
      · rw [itoa_pos (by omega)]; exact HO.out.1 h
      · have h2 := H.out n hx
        exact HO.out.2 h n.toNat (by omega) h2.2
    · have hi : ¬ (0 : Int) < s.size := by omega
      clear hm
      go_enter Tryz.func136, Tryz.ntmps136
      go_wp2_with fail
      refine (l01Value_any _ _ hs).mono ?_
      rintro e w1 ⟨v, ok, rfl, hv, hok, hno, e1⟩
      have HO := Lib.hid (And.intro hok hno)
      clear hok hno
      go_wp2
      go_ret2
      refine ⟨v, ok, rfl, by omega, fun h => ?_, fun h n hn0 hn1 hx => ?_, e1⟩
      · rw [itoa_pos (by omega)]; exact HO.out.1 h
      · have h2 := H.out n hx
        exact HO.out.2 h n.toNat (by omega) h2.2

end Go.Proofs.YtajgjccnhippcaaGreatDoor

/-
  A word with another end, on both sides.
-/
import Derived.Test.YtfglmoedicijkaaGreatDoorS
import Derived.Test.YtfglmoedicijkaaGreatDoorShelf
namespace Go.Proofs.YtfglmoedicijkaaGreatDoor
open Go.RowKit

def sufB (s p : ByteArray) : Bool := Lib.hasSuffix s.data.toList p.data.toList
def chgV (s p e : ByteArray) : ByteArray := ⟨(Lib.trimSuffix s.data.toList p.data.toList).toArray⟩ ++ e
def chgB (s p e : ByteArray) : Bool := sufB s p && wordB (chgV s p e)
theorem chgV_size (s p e : ByteArray) : (chgV s p e).size ≤ s.size + e.size := by
  rw [chgV, ByteArray.size_append]
  have := Lib.trimSuffix_le s.data.toList p.data.toList
  have h1 : (⟨(Lib.trimSuffix s.data.toList p.data.toList).toArray⟩ : ByteArray).size = (Lib.trimSuffix s.data.toList p.data.toList).length := rfl
  rw [h1, Lib.size_eq s]
  omega
theorem chg_no {s p : ByteArray} (e : ByteArray) (h : sufB s p = false) : chgB s p e = false := by rw [chgB, h]; rfl
theorem chg_yes {s p : ByteArray} (e : ByteArray) (h : sufB s p = true) : chgB s p e = wordB (chgV s p e) := by rw [chgB, h]; rfl
theorem suf_short {s p : ByteArray} (h : s.size < p.size) : sufB s p = false := by
  rw [sufB, ← Lib.hasSuffix_raw, decide_eq_false (by omega)]; rfl
theorem suf_raw {s p : ByteArray} (h : p.size ≤ s.size) : sufB s p = ((s.extract (s.size - p.size) s.size).toList == p.toList) := by
  rw [sufB, ← Lib.hasSuffix_raw, decide_eq_true h, Bool.true_and]
theorem chgV_hit {s p : ByteArray} (e : ByteArray) (h1 : p.size ≤ s.size) (h : sufB s p = true) : chgV s p e = s.extract 0 (s.size - p.size) ++ e := by
  rw [chgV, Lib.trimSuffix_hit s p h1 (by rw [← suf_raw h1]; exact h)]

theorem trim_size (s p : ByteArray) : (⟨(Lib.trimSuffix s.data.toList p.data.toList).toArray⟩ : ByteArray).size ≤ s.size := by
  have := Lib.trimSuffix_le s.data.toList p.data.toList
  have h1 : (⟨(Lib.trimSuffix s.data.toList p.data.toList).toArray⟩ : ByteArray).size = (Lib.trimSuffix s.data.toList p.data.toList).length := rfl
  rw [h1, Lib.size_eq s]
  exact this

set_option maxHeartbeats 400000 in
theorem exchanged_any (s p e : ByteArray) (w : World) (hs : s.size ≤ 1073741824) (he : e.size ≤ 1073741824) :
    Calls Tryz.prog 58 #[.string s, .string p, .string e] w fun x w' => x = .returned (.tuple #[.string (chgV s p e), .bool (chgB s p e)]) ∧ Ext w w' := by
  have hz := chgV_size s p e
  have ht := trim_size s p
  have hv : chgV s p e = ⟨(Lib.trimSuffix s.data.toList p.data.toList).toArray⟩ ++ e := rfl
  have hcut := Tryz.strings_CutSuffix s p w (by omega)
  generalize (⟨(Lib.trimSuffix s.data.toList p.data.toList).toArray⟩ : ByteArray) = t at *
  have hsum : t.size + e.size ≤ 9223372036854775807 := by omega
  have HV := Lib.hid hv
  clear hv
  cases h : sufB s p
  · have H := Lib.hid (And.intro h (chg_no e h))
    clear h
    go_enter Tryz.func58, Tryz.ntmps58
    go_wp2_with fail
    refine hcut.mono ?_
    rintro x w1 ⟨rfl, rfl⟩
    rw [show Lib.hasSuffix s.data.toList p.data.toList = false from H.out.1]
    go_wp2
    go_ret2
    rw [H.out.2, HV.out]
    exact ⟨rfl, Ext.refl _⟩
  · have H := Lib.hid (And.intro h (chg_yes e h))
    clear h
    go_enter Tryz.func58, Tryz.ntmps58
    go_wp2_with fail
    refine hcut.mono ?_
    rintro x w1 ⟨rfl, rfl⟩
    rw [show Lib.hasSuffix s.data.toList p.data.toList = true from H.out.1]
    go_wp2_with fail
    refine (implIsWord_any (t ++ e) _ (by rw [ByteArray.size_append]; omega)).mono ?_
    rintro x w2 ⟨rfl, e2⟩
    go_wp2
    go_ret2
    rw [H.out.2, HV.out]
    exact ⟨rfl, e2⟩

/-- What the reference hands back beside. -/
def chgW (s p e : ByteArray) : ByteArray := if sufB s p = true then chgV s p e else ⟨#[]⟩
theorem chgW_no {s p : ByteArray} (e : ByteArray) (h : sufB s p = false) : chgW s p e = ⟨#[]⟩ := by rw [chgW, h]; rfl
theorem chgW_yes {s p : ByteArray} (e : ByteArray) (h : sufB s p = true) : chgW s p e = chgV s p e := by rw [chgW, if_pos h]
theorem chg_V {s p e : ByteArray} (h : chgB s p e = true) : chgW s p e = chgV s p e ∧ (chgV s p e).size ≤ 16 := by
  rw [chgB, Bool.and_eq_true] at h
  refine ⟨chgW_yes e h.1, ?_⟩
  have h2 := h.2
  rw [wordB, smallB, Bool.and_eq_true] at h2
  have h3 := h2.1
  simp only [inB, Bool.and_eq_true, decide_eq_true_eq] at h3
  omega

set_option maxHeartbeats 400000 in
theorem l08Change_any (s p e : ByteArray) (w : World) (hs : s.size ≤ 1073741824) (hp : p.size ≤ 1073741824) (he : e.size ≤ 1073741824) :
    Calls Tryz.prog 61 #[.string s, .string p, .string e] w fun x w' => x = .returned (.tuple #[.string (chgW s p e), .bool (chgB s p e)]) ∧ w = w' := by
  have hz := chgV_size s p e
  by_cases hlt : s.size < p.size
  · have H := Lib.hid (And.intro (chg_no e (suf_short hlt)) (chgW_no e (suf_short hlt)))
    have hlti : (s.size : Int) - p.size < 0 := by omega
    go_enter Tryz.func61, Tryz.ntmps61
    go_wp2
    go_ret2
    rw [H.out.1, H.out.2]
    exact ⟨rfl, rfl⟩
  · have hle : p.size ≤ s.size := by omega
    have hn : (s.size : Int) - p.size = ((s.size - p.size : Nat) : Int) := by omega
    cases h : sufB s p
    · have H := Lib.hid (And.intro (chg_no e h) (chgW_no e h))
      have h2 : ((s.extract (s.size - p.size) s.size).toList == p.toList) = false := (suf_raw hle).symm.trans h
      clear h
      go_enter Tryz.func61, Tryz.ntmps61
      go_wp2
      go_ret2
      rw [H.out.1, H.out.2]
      exact ⟨rfl, rfl⟩
    · have H := Lib.hid (And.intro (chg_yes e h) (And.intro (chgV_hit e hle h) (chgW_yes e h)))
      have h2 : ((s.extract (s.size - p.size) s.size).toList == p.toList) = true := (suf_raw hle).symm.trans h
      have hx : (s.extract 0 (s.size - p.size)).size = s.size - p.size := by rw [ByteArray.size_extract]; omega
      clear h
      go_enter Tryz.func61, Tryz.ntmps61
      go_wp2_with fail
      rw [← H.out.2.1]
      refine (specIsWord_any (chgV s p e) _ (by omega)).mono ?_
      rintro x w2 ⟨rfl, rfl⟩
      go_wp2
      go_ret2
      rw [H.out.1, H.out.2.2]
      exact ⟨rfl, rfl⟩

end Go.Proofs.YtfglmoedicijkaaGreatDoor

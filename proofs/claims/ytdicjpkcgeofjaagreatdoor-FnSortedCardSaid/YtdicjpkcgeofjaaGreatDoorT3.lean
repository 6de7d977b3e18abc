/-
  Lists of words; the helpers of the statements on slices of strings that count and mark.
-/
import Derived.Test.YtdicjpkcgeofjaaGreatDoorT2
namespace Go.Proofs.YtdicjpkcgeofjaaGreatDoor
open Go.RowKit

def wordsB (ss : List ByteArray) : Bool := ss.all wordB
theorem wordsB_bad {ss : List ByteArray} {k : Nat} (hk : k < ss.length) (h : wordB (nthS ss k) = false) : wordsB ss = false := by
  rw [wordsB, List.all_eq_false]
  exact ⟨_, nthS_mem hk, by simp [h]⟩
theorem wordsB_good {ss : List ByteArray} (h : ∀ k, k < ss.length → wordB (nthS ss k) = true) : wordsB ss = true := by
  rw [wordsB, List.all_eq_true]
  intro s hs
  obtain ⟨k, hk, rfl⟩ := List.getElem_of_mem hs
  rw [← nthS_eq hk]
  exact h k hk
theorem wordsB_at {ss : List ByteArray} (h : wordsB ss = true) {k : Nat} (hk : k < ss.length) : wordB (nthS ss k) = true := by
  rw [wordsB, List.all_eq_true] at h
  exact h _ (nthS_mem hk)
theorem wordB_size {s : ByteArray} (h : wordB s = true) : 1 ≤ s.size ∧ s.size ≤ 16 := by
  rw [wordB, smallB, Bool.and_eq_true] at h
  have := inB_iff.1 h.1
  omega
theorem wordB_low {s : ByteArray} (h : wordB s = true) : lowB s = true := by
  rw [wordB, smallB, Bool.and_eq_true] at h
  exact h.2

set_option maxHeartbeats 400000 in
theorem areWords_any (a : Option Addr) (n c : Nat) (ss : List ByteArray) (w : World) (hr : RdS w a n ss) :
    Calls Tryz.prog 108 #[.slice a n c] w fun e w' => e = .returned (.bool (wordsB ss)) ∧ Ext w w' := by
  have hm := hr.le
  go_enter Tryz.func108, Tryz.ntmps108
  go_wp2
  go_loopw [7] (fun i wr => ∃ k : Nat, k ≤ n ∧ i = .int .i64 k ∧ (∀ j, j < k → wordB (nthS ss j) = true) ∧ Ext w wr) (fun i _ => n - (intOf i).toNat)
  case atStart => exact ⟨0, Nat.zero_le _, rfl, fun j h => by omega, Ext.refl _⟩
  case round =>
    obtain ⟨k, hk, rfl, hall, hb⟩ := hrel
    have HA := Lib.hid hall
    clear hall
    by_cases hlt : k < n
    · obtain ⟨b, o, rfl, hbl, hc⟩ := (hr.ext hb).at (by omega)
      have hck := hc k hlt
      have hsz := hr.size hlt
      clear hc
      cases h : wordB (nthS ss k)
      all_goals
        have HH := Lib.hid h
        clear h
        go_wp2_with fail
        refine (implIsWord_any _ _ (by omega)).mono ?_
        rintro e w1 ⟨rfl, hx⟩
        rw [HH.out]
        go_wp2
      · go_ret
        exact ⟨ret_bool (wordsB_bad (by rw [hr.len]; exact hlt) HH.out).symm, hb.trans hx⟩
      · go_roundw
        case rel =>
          refine ⟨k + 1, by omega, by go_num, fun j hj => ?_, hb.trans hx⟩
          by_cases e : j = k
          · rw [e]; exact HH.out
          · exact HA.out j (by omega)
        case measure => simp [intOf]; omega
    · obtain rfl : k = n := by omega
      go_wp2
      go_ret
      exact ⟨ret_bool (wordsB_good (by rw [hr.len]; exact HA.out)).symm, hb⟩

/-- A slice of strings that came in; sizes not bounded by us. -/
def InS (w : World) (a : Option Addr) (n : Nat) (ss : List ByteArray) : Prop := ss.length = n ∧ n ≤ 9223372036854775807 ∧ Rd w a (ss.flatMap layS.cells) ∧ ∀ s ∈ ss, s.size ≤ 9223372036854775807
/-- All bytes of some strings. -/
def tot (ss : List ByteArray) : Nat := (ss.map ByteArray.size).sum
theorem tot_take {ss : List ByteArray} {k : Nat} (hk : k < ss.length) : tot (ss.take (k + 1)) = tot (ss.take k) + (nthS ss k).size := by
  rw [tot, tot, List.take_succ_eq_append_getElem hk, List.map_append, List.sum_append, nthS_eq hk]
  simp
theorem tot_le {ss : List ByteArray} {s : ByteArray} (h : s ∈ ss) : s.size ≤ tot ss := by
  induction ss with
  | nil => simp at h
  | cons x xs ih =>
    rw [tot, List.map_cons, List.sum_cons]
    rcases List.mem_cons.1 h with rfl | h
    · omega
    · have := ih h
      rw [tot] at this
      omega
theorem InS.rdS {w : World} {a : Option Addr} {n : Nat} {ss : List ByteArray} (h : InS w a n ss) (hn : n ≤ 4294967296) (hs : ∀ s ∈ ss, s.size ≤ 1073741824) : RdS w a n ss := ⟨⟨h.1, hn, h.2.2.1⟩, hs⟩
theorem InS.at {w : World} {a : Option Addr} {n : Nat} {ss : List ByteArray} (h : InS w a n ss) (hn : 0 < n) :
    ∃ b o, a = some ⟨b, o, none⟩ ∧ b < w.heap.size ∧ ∀ k, k < n → w.cell? ⟨b, o + k, none⟩ = some (.string (nthS ss k)) := by
  have hl := h.1
  obtain ⟨b, o, ha, hb, hc⟩ := h.2.2.1.pos (by rw [flat_len, hl]; exact Nat.mul_pos hn (by decide))
  refine ⟨b, o, ha, hb, fun k hk => hc k _ ?_⟩
  have := flat_get layS ss k 0 (nthS ss k) (by rw [nthS_eq (by omega)]; exact List.getElem?_eq_getElem (by omega)) (by decide)
  simpa [layS] using this

/-- What counting leaves: nothing, if it is not negative: how much is left. -/
def Left (n m : Nat) (left r : Int) : Prop := (0 ≤ r → (n : Int) + m + r = left) ∧ (r < 0 → r = -1)

end Go.Proofs.YtdicjpkcgeofjaaGreatDoor

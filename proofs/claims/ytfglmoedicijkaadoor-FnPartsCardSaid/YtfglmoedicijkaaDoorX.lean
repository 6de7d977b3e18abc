/-
  The walks of the two AreGenerics.
-/
import Derived.Test.YtfglmoedicijkaaDoorS
namespace Go.Proofs.YtfglmoedicijkaaDoor
open Go.RowKit

/-- At most 16 words, no two the same. -/
def firstsB (ss : List ByteArray) : Bool := (List.range ss.length).all fun i => wordB (nthS ss i) && !hasS (ss.take i) (nthS ss i)
def genericsB (ss : List ByteArray) : Bool := firstsB ss && decide (ss.length ≤ 16)
theorem firstsB_bad {ss : List ByteArray} {k : Nat} (hk : k < ss.length) (h : wordB (nthS ss k) = false ∨ hasS (ss.take k) (nthS ss k) = true) : firstsB ss = false := by
  rw [firstsB, List.all_eq_false]
  refine ⟨k, List.mem_range.2 hk, ?_⟩
  rcases h with h | h <;> simp [h]
theorem firstsB_good {ss : List ByteArray} (h : ∀ k, k < ss.length → wordB (nthS ss k) = true ∧ hasS (ss.take k) (nthS ss k) = false) : firstsB ss = true := by
  rw [firstsB, List.all_eq_true]
  intro k hk
  have := h k (List.mem_range.1 hk)
  simp [this.1, this.2]
theorem nthS_take {ss : List ByteArray} {j k : Nat} (hj : j < k) (hk : k ≤ ss.length) : nthS (ss.take k) j = nthS ss j := by
  rw [nthS_eq (by simp; omega), nthS_eq (by omega), List.getElem_take]
/-- s at k is the first of its kind: nothing before it is the same. -/
theorem first_iff {ss : List ByteArray} {k : Nat} (hk : k < ss.length) : (idxS ss (nthS ss k) = k) ↔ hasS (ss.take k) (nthS ss k) = false := by
  constructor
  · intro h
    refine hasS_none fun j hj => ?_
    have hj' : j < k := by simp at hj; omega
    rw [nthS_take hj' (by omega)]
    exact (idxS_of h).2.2 j hj'
  · intro h
    refine idxS_at hk rfl fun j hj e => ?_
    have := hasS_at (ss := ss.take k) (s := nthS ss k) (k := j) (by simp; omega) (by rw [nthS_take hj (by omega)]; exact e)
    rw [h] at this
    cases this

set_option maxRecDepth 100000 in
set_option maxHeartbeats 400000 in
theorem specAreGenerics_any (a : Option Addr) (n c : Nat) (ss : List ByteArray) (w : World) (hr : RdS w a n ss) :
    Calls Tryd.prog 37 #[.slice a n c] w fun e w' => e = .returned (.bool (genericsB ss)) ∧ w = w' := by
  have hm := hr.le
  go_enter Tryd.func37, Tryd.ntmps37
  go_wp2
  go_loop [3] (fun i => ∃ k : Nat, k ≤ n ∧ i = .int .i64 k ∧ ∀ j, j < k → wordB (nthS ss j) = true ∧ hasS (ss.take j) (nthS ss j) = false) (fun i => n - (intOf i).toNat)
  case atStart => exact ⟨0, Nat.zero_le _, rfl, by simp⟩
  case round =>
    obtain ⟨k, hk, rfl, hall⟩ := hrel
    have HA := Lib.hid hall
    clear hall
    by_cases hlt : k < n
    · obtain ⟨b, o, rfl, hbl, hc⟩ := hr.at (by omega)
      have hck := hc k hlt
      have hsz := hr.size hlt
      have hln := hr.len
      clear hc
      cases h : wordB (nthS ss k)
      · have HH := Lib.hid h
        clear h
        go_wp2_with (go_at_call 68; refine (specIsWord_any _ _ (by omega)).mono ?_; rintro e w' ⟨rfl, rfl⟩; rw [HH.out])
        go_ret
        exact ⟨ret_bool (by rw [genericsB, firstsB_bad (by omega) (.inl HH.out)]; rfl), rfl⟩
      · by_cases hf : idxS ss (nthS ss k) = k
        · have HH := Lib.hid (And.intro h hf)
          have hb : (idxS ss (nthS ss k) == (k : Int)) = true := by rw [hf]; simp
          clear h hf
          go_wp2_with (first | (go_at_call 68; refine (specIsWord_any _ _ (by omega)).mono ?_; rintro e w' ⟨rfl, rfl⟩; rw [HH.out.1]) | (go_at_call 71; refine (l03Find_any _ _ _ _ _ _ hr).mono ?_; rintro e w' ⟨rfl, rfl⟩))
          go_round
          case rel =>
            refine ⟨k + 1, by omega, by go_num, fun j hj => ?_⟩
            by_cases e : j = k
            · rw [e]; exact ⟨HH.out.1, (first_iff (by omega)).1 HH.out.2⟩
            · exact HA.out j (by omega)
          case measure => simp [intOf]; omega
        · have HH := Lib.hid (And.intro h hf)
          have hb : (idxS ss (nthS ss k) == (k : Int)) = false := by rw [beq_eq_false_iff_ne]; exact hf
          clear h hf
          go_wp2_with (first | (go_at_call 68; refine (specIsWord_any _ _ (by omega)).mono ?_; rintro e w' ⟨rfl, rfl⟩; rw [HH.out.1]) | (go_at_call 71; refine (l03Find_any _ _ _ _ _ _ hr).mono ?_; rintro e w' ⟨rfl, rfl⟩))
          go_ret
          refine ⟨ret_bool ?_, rfl⟩
          rw [genericsB, firstsB_bad (k := k) (by omega) (.inr ?_)]; · rfl
          cases h2 : hasS (ss.take k) (nthS ss k)
          · exact absurd ((first_iff (by omega)).2 h2) HH.out.2
          · rfl
    · obtain rfl : k = n := by omega
      have hln := hr.len
      go_wp2
      go_ret
      exact ⟨ret_bool (by rw [genericsB, firstsB_good (fun j hj => HA.out j (by omega)), hln, Bool.true_and]; exact decide_eq_decide.2 (by omega)), rfl⟩

set_option maxRecDepth 100000 in
set_option maxHeartbeats 400000 in
theorem implAreGenerics_any (a : Option Addr) (n c : Nat) (ss : List ByteArray) (w : World) (hr : RdS w a n ss) (hcap : n ≤ c) :
    Calls Tryd.prog 36 #[.slice a n c] w fun e w' => e = .returned (.bool (genericsB ss)) ∧ Ext w w' := by
  have hm := hr.le
  go_enter Tryd.func36, Tryd.ntmps36
  go_wp2
  go_loopw [7] (fun i wr => ∃ k : Nat, k ≤ n ∧ i = .int .i64 k ∧ (∀ j, j < k → wordB (nthS ss j) = true ∧ hasS (ss.take j) (nthS ss j) = false) ∧ Ext w wr) (fun i _ => n - (intOf i).toNat)
  case atStart => exact ⟨0, Nat.zero_le _, rfl, by simp, Ext.refl _⟩
  case round =>
    obtain ⟨k, hk, rfl, hall, hx⟩ := hrel
    have HA := Lib.hid hall
    clear hall
    by_cases hlt : k < n
    · obtain ⟨b, o, rfl, hbl, hc⟩ := (hr.ext hx).at (by omega)
      have hck := hc k hlt
      have hsz := hr.size hlt
      have hln := hr.len
      have hfr := (hr.ext hx).front (Nat.le_of_lt hlt)
      clear hc
      cases h : wordB (nthS ss k)
      · have HH := Lib.hid h
        clear h
        go_wp2_with fail
        refine (implIsWord_any _ _ (by omega)).mono ?_
        rintro e w1 ⟨rfl, hx1⟩
        rw [HH.out]
        go_wp2
        go_ret
        exact ⟨ret_bool (by rw [genericsB, firstsB_bad (by omega) (.inl HH.out)]; rfl), hx.trans hx1⟩
      · cases hf : hasS (ss.take k) (nthS ss k)
        · have HH := Lib.hid (And.intro h hf)
          clear h hf
          go_wp2_with fail
          refine (implIsWord_any _ _ (by omega)).mono ?_
          rintro e w1 ⟨rfl, hx1⟩
          rw [HH.out.1]
          have hfr1 := hfr.ext hx1
          go_wp2_with (go_at_call 72; refine (slContains_string_any _ _ _ _ _ _ hfr1).mono ?_; rintro e w' ⟨rfl, rfl⟩; rw [HH.out.2])
          go_roundw
          case rel =>
            refine ⟨k + 1, by omega, by go_num, fun j hj => ?_, hx.trans hx1⟩
            by_cases e : j = k
            · rw [e]; exact HH.out
            · exact HA.out j (by omega)
          case measure => simp [intOf]; omega
        · have HH := Lib.hid (And.intro h hf)
          clear h hf
          go_wp2_with fail
          refine (implIsWord_any _ _ (by omega)).mono ?_
          rintro e w1 ⟨rfl, hx1⟩
          rw [HH.out.1]
          have hfr1 := hfr.ext hx1
          go_wp2_with (go_at_call 72; refine (slContains_string_any _ _ _ _ _ _ hfr1).mono ?_; rintro e w' ⟨rfl, rfl⟩; rw [HH.out.2])
          go_ret
          exact ⟨ret_bool (by rw [genericsB, firstsB_bad (k := k) (by omega) (.inr HH.out.2)]; rfl), hx.trans hx1⟩
    · obtain rfl : k = n := by omega
      have hln := hr.len
      go_wp2
      go_ret
      exact ⟨ret_bool (by rw [genericsB, firstsB_good (fun j hj => HA.out j (by omega)), hln, Bool.true_and]; exact decide_eq_decide.2 (by omega)), hx⟩

end Go.Proofs.YtfglmoedicijkaaDoor

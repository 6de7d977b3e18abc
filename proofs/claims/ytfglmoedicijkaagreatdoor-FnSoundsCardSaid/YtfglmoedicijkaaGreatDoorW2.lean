/-
  A slice of bytes that came in, as the draws take it; the statements' own small helpers.
-/
import Derived.Test.YtfglmoedicijkaaGreatDoorW
import Derived.Test.YtfglmoedicijkaaGreatDoorG
namespace Go.Proofs.YtfglmoedicijkaaGreatDoor
open Go.ChangeShapes Go.WideShapes Go.ChangeAt Go.RowKit

/-- A slice of bytes that came in; how many is not bounded. -/
def InBy (w : World) (a : Option Addr) (n : Nat) (bs : List Int) : Prop := bs.length = n ∧ (∀ k, 0 ≤ nth bs k ∧ nth bs k ≤ 255) ∧ Rd w a (bs.map (Value.int .u8))
theorem InBy.rdBy {w : World} {a : Option Addr} {n : Nat} {bs : List Int} (h : InBy w a n bs) (hn : n ≤ 4294967296) : RdBy w a n bs := ⟨h.1, hn, h.2.1, h.2.2⟩

section
variable {H : Type} {enc : TypeId × Value → H} {w : World} {spare : Nat → Bool} {held : Bool} {a : Option Addr} {n c : Nat} {d : DataW H} {p : List MemPlace}
theorem open_inBy (h : DataW.Trod enc Tryz.prog w 0 spare held 22 (.slice a n c) d p) : ∃ bs, InBy w a n bs := by
  obtain ⟨fuel, hf⟩ := h
  rcases open_ints Tryz.underlying22 Tryz.underlying5 (by kernel_rfl) hf with ⟨hcs, _⟩ | ⟨x, l, c', zs, hcs, _, hl, hm, hz, _, hcell, hwz⟩
  · simp [Value.cells] at hcs
    obtain ⟨rfl, rfl, rfl⟩ := hcs
    exact ⟨[], rfl, by simp [nth], .inl rfl⟩
  · simp [Value.cells] at hcs
    obtain ⟨rfl, rfl, rfl⟩ := hcs
    have hln : n ≤ zs.length := by rw [hz]; split <;> omega
    have key : ∀ z ∈ zs, 0 ≤ z ∧ z ≤ 255 := by
      intro z hz
      have hm := hwz z hz
      simp [Lit.wf, IntKind.min, IntKind.max, IntKind.signed, IntKind.bits] at hm
      omega
    refine ⟨zs.take n, by simp; omega, fun k => ?_, rd_of_cells fun i u hu => ?_⟩
    · by_cases hk : k < (zs.take n).length
      · rw [nth_eq hk]
        exact key _ (List.mem_of_mem_take (List.getElem_mem hk))
      · simp only [nth, List.getD_eq_getElem?_getD, List.getElem?_eq_none (Nat.le_of_not_lt hk)]
        decide
    · have hi := (List.getElem?_eq_some_iff.1 hu).1
      simp at hi
      rw [hcell i (by omega)]
      simp [List.getElem?_take, show i < zs.length by omega] at hu
      simp [hu.2, show i < zs.length by omega]
end

theorem big_any (a : Option Addr) (n c : Nat) (w : World) : Calls Tryz.prog 5 #[.slice a n c] w fun e w' => e = .returned (.bool (decide (4096 < (n : Int)))) ∧ w = w' := by
  go_enter Tryz.func5, Tryz.ntmps5
  go_wp2
  go_ret
  exact ⟨rfl, rfl⟩

set_option maxHeartbeats 400000 in
theorem likeInts_same (a b : Option Addr) (n c c' : Nat) (zs : List Int) (w : World) (ha : RdI w a n zs) (hb : RdI w b n zs) :
    Calls Tryz.prog 20 #[.slice a n c, .slice b n c'] w fun e w' => e = .returned (.bool true) ∧ Still w w' := by
  have hm := ha.le
  go_enter Tryz.func20, Tryz.ntmps20
  go_wp2
  go_loopw [5] (fun i wr => ∃ k : Nat, k ≤ n ∧ i = .int .i64 k ∧ Still w wr) (fun i _ => n - (intOf i).toNat)
  case atStart => exact ⟨0, Nat.zero_le _, rfl, Still.refl _⟩
  case round =>
    obtain ⟨k, hk, rfl, hs⟩ := hrel
    by_cases hlt : k < n
    · obtain ⟨b1, o1, rfl, hbl1, hc1⟩ := (ha.ext hs.ext).at (by omega)
      obtain ⟨b2, o2, rfl, hbl2, hc2⟩ := (hb.ext hs.ext).at (by omega)
      have hk1 := hc1 k hlt
      have hk2 := hc2 k hlt
      clear hc1 hc2
      have hki : (k : Int) < n := by omega
      go_wp2
      go_quiet (fail)
      go_wp2
      go_roundw
      case rel => exact ⟨k + 1, by omega, by go_num, hs.drewN _⟩
      case measure => simp [intOf]; omega
    · obtain rfl : k = n := by omega
      go_wp2
      go_ret
      exact ⟨rfl, hs⟩

set_option maxHeartbeats 400000 in
theorem hasInt_any (a : Option Addr) (n c : Nat) (x : Int) (zs : List Int) (w : World) (hr : RdI w a n zs) :
    Calls Tryz.prog 24 #[.slice a n c, .int .i64 x] w fun e w' => e = .returned (.bool (hasI zs x)) ∧ w = w' := by
  have hm := hr.le
  go_enter Tryz.func24, Tryz.ntmps24
  go_wp2
  go_loop [5] (fun i => ∃ k : Nat, k ≤ n ∧ i = .int .i64 k ∧ ∀ j, j < k → nth zs j ≠ x) (fun i => n - (intOf i).toNat)
  case atStart => exact ⟨0, Nat.zero_le _, rfl, by simp⟩
  case round =>
    obtain ⟨k, hk, rfl, hall⟩ := hrel
    have HA := Lib.hid hall
    clear hall
    by_cases hlt : k < n
    · obtain ⟨b, o, rfl, hbl, hc⟩ := hr.at (by omega)
      have hck := hc k hlt
      clear hc
      by_cases h : nth zs k = x
      · have HH := Lib.hid h
        have hb : (nth zs k == x) = true := by simp [h]
        clear h
        go_wp2
        go_ret
        exact ⟨ret_bool (mem_nth (by rw [hr.len]; exact hlt) HH.out).symm, rfl⟩
      · have HH := Lib.hid h
        have hb : (nth zs k == x) = false := by simp [h]
        clear h
        go_wp2
        go_round
        case rel =>
          refine ⟨k + 1, by omega, by go_num, fun j hj => ?_⟩
          by_cases e : j = k
          · rw [e]; exact HH.out
          · exact HA.out j (by omega)
        case measure => simp [intOf]; omega
    · obtain rfl : k = n := by omega
      go_wp2
      go_ret
      exact ⟨ret_bool (not_mem_nth (by rw [hr.len]; exact HA.out)).symm, rfl⟩

end Go.Proofs.YtfglmoedicijkaaGreatDoor

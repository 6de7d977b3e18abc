/-
  A slice of bytes that came in, as the draws take it; the statements' own small helpers.
-/
import Derived.Test.YtdicjpkcgeofjaaGreatDoorM0
import Derived.Test.YtdicjpkcgeofjaaGreatDoorG
namespace Go.Proofs.YtdicjpkcgeofjaaGreatDoor
open Go.ChangeShapes Go.WideShapes Go.ChangeAt Go.RowKit

/-- A slice of bytes that came in; how many is not bounded. -/
def InBy (w : World) (a : Option Addr) (n : Nat) (bs : List Int) : Prop := bs.length = n ∧ (∀ k, 0 ≤ nth bs k ∧ nth bs k ≤ 255) ∧ Rd w a (bs.map (Value.int .u8))
theorem InBy.rdBy {w : World} {a : Option Addr} {n : Nat} {bs : List Int} (h : InBy w a n bs) (hn : n ≤ 4294967296) : RdBy w a n bs := ⟨h.1, hn, h.2.1, h.2.2⟩

section
variable {H : Type} {enc : TypeId × Value → H} {w : World} {spare : Nat → Bool} {held : Bool} {a : Option Addr} {n c : Nat} {d : DataW H} {p : List MemPlace}
theorem open_inBy (h : DataW.Trod enc Tryz.prog w 0 spare held 22 (.slice a n c) d p) : ∃ bs, InBy w a n bs := by
  obtain ⟨fuel, hf⟩ := h
  rcases open_ints Tryz.underlying22 Tryz.underlying5 (by kernel_rfl) hf with ⟨hcs, _⟩ | ⟨x, l, c', zs, hcs, _, hl, hm, hz, _, hcell, hwz⟩
  · simp [Value.cells] at hcs
    obtain ⟨rfl, rfl, rfl⟩ := hcs
    exact ⟨[], rfl, by simp [nth], .inl rfl⟩
  · simp [Value.cells] at hcs
    obtain ⟨rfl, rfl, rfl⟩ := hcs
    have hln : n ≤ zs.length := by rw [hz]; split <;> omega
    have key : ∀ z ∈ zs, 0 ≤ z ∧ z ≤ 255 := by
      intro z hz
      have hm := hwz z hz
      simp [Lit.wf, IntKind.min, IntKind.max, IntKind.signed, IntKind.bits] at hm
      omega
    refine ⟨zs.take n, by simp; omega, fun k => ?_, rd_of_cells fun i u hu => ?_⟩
    · by_cases hk : k < (zs.take n).length
      · rw [nth_eq hk]
        exact key _ (List.mem_of_mem_take (List.getElem_mem hk))
      · simp only [nth, List.getD_eq_getElem?_getD, List.getElem?_eq_none (Nat.le_of_not_lt hk)]
        decide
    · have hi := (List.getElem?_eq_some_iff.1 hu).1
      simp at hi
      rw [hcell i (by omega)]
      simp [List.getElem?_take, show i < zs.length by omega] at hu
      simp [hu.2, show i < zs.length by omega]
end

theorem big_any (a : Option Addr) (n c : Nat) (w : World) : Calls Tryz.prog 4 #[.slice a n c] w fun e w' => e = .returned (.bool (decide (4096 < (n : Int)))) ∧ w = w' := by
  go_enter Tryz.func4, Tryz.ntmps4
  go_wp2
  go_ret
  exact ⟨rfl, rfl⟩

set_option maxHeartbeats 400000 in
theorem likeInts_same (a b : Option Addr) (n c c' : Nat) (zs : List Int) (w : World) (ha : RdI w a n zs) (hb : RdI w b n zs) :
    Calls Tryz.prog 18 #[.slice a n c, .slice b n c'] w fun e w' => e = .returned (.bool true) ∧ Still w w' := by
  have hm := ha.le
  go_enter Tryz.func18, Tryz.ntmps18
  go_wp2
  go_loopw [5] (fun i wr => ∃ k : Nat, k ≤ n ∧ i = .int .i64 k ∧ Still w wr) (fun i _ => n - (intOf i).toNat)
  case atStart => exact ⟨0, Nat.zero_le _, rfl, Still.refl _⟩
  case round =>
    obtain ⟨k, hk, rfl, hs⟩ := hrel
    by_cases hlt : k < n
    · obtain ⟨b1, o1, rfl, hbl1, hc1⟩ := (ha.ext hs.ext).at (by omega)
      obtain ⟨b2, o2, rfl, hbl2, hc2⟩ := (hb.ext hs.ext).at (by omega)
      have hk1 := hc1 k hlt
      have hk2 := hc2 k hlt
      clear hc1 hc2
      have hki : (k : Int) < n := by omega
      go_wp2
      go_quiet (fail)
      go_wp2
      go_roundw
      case rel => exact ⟨k + 1, by omega, by go_num, hs.drewN _⟩
      case measure => simp [intOf]; omega
    · obtain rfl : k = n := by omega
      go_wp2
      go_ret
      exact ⟨rfl, hs⟩

end Go.Proofs.YtdicjpkcgeofjaaGreatDoor

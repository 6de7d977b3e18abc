/-
  The reference's draws of lists of names.
-/
import Derived.Test.YtjelmidkkpchkaaGreatDoorDN2
namespace Go.Proofs.YtjelmidkkpchkaaGreatDoor
open Go.RowKit

theorem RdG.drew {α : Type} {L : Lay α} {w w' : World} {g n : Nat} {a : Option Addr} {xs : List α} (h : RdG L w a n xs) (hd : Drew w g w') (ha : ∀ ad, a = some ad → ad.block ≠ g) : RdG L w' a n xs := by
  refine ⟨h.1, h.2.1, ?_⟩
  rcases h.2.2 with e | ⟨b, o, rfl, hb, hc⟩
  · exact .inl e
  · exact .inr ⟨b, o, rfl, Nat.lt_of_lt_of_le hb hd.size, fun j u hu => by rw [hd.cell (p := ⟨b, o + j, none⟩) hb (ha ⟨b, o, none⟩ rfl)]; exact hc j u hu⟩
/-- Names as the draws make them. -/
def shortN (xs : List NameV) : Prop := ∀ x ∈ xs, x.text.size ≤ 217 ∧ x.lang.size ≤ 17

end Go.Proofs.YtjelmidkkpchkaaGreatDoor

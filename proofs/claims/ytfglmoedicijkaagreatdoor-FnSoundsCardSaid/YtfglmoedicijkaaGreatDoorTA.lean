/-
  The program's own taking apart of a phrase.
-/
import Derived.Test.YtfglmoedicijkaaGreatDoorJ
import Derived.Test.YtfglmoedicijkaaGreatDoorShelf
namespace Go.Proofs.YtfglmoedicijkaaGreatDoor
open Go.RowKit

theorem join_any (a : Option Addr) (n c : Nat) (ss : List ByteArray) (w : World) (hr : RdS w a n ss) (hcap : n ≤ c) (hs : tot ss + n ≤ 1073741824) :
    Calls Tryz.prog 78 #[.slice a n c, .string ⟨#[32]⟩] w fun e w' => e = .returned (.string (joinS ss)) ∧ Ext w w' := by
  have hl := hr.len
  by_cases h0 : 0 < n
  · obtain ⟨b, o, rfl, hb, hc⟩ := hr.at h0
    subst hl
    have hz := joinS_size (ss := ss) ss.length (Nat.le_refl _)
    rw [List.take_length] at hz
    refine Tryz.strings_Join b o c ss ⟨#[32]⟩ w (fun j x hx => ?_) hb (by omega) hcap ?_
    · have hj := (List.getElem?_eq_some_iff.1 hx).1
      rw [hc j hj, nthS_eq hj]
      rw [List.getElem?_eq_getElem hj] at hx
      cases hx
      rfl
    · have : (joinS ss).size ≤ 140737488355328 := by omega
      have e : (joinS ss).size = (Lib.join (ss.map (·.data.toList)) [32]).length := List.size_toArray
      rw [e] at this
      exact this
  · obtain rfl : n = 0 := by omega
    obtain rfl : ss = [] := List.eq_nil_of_length_eq_zero hl
    refine (Tryz.strings_Join_none a c ⟨#[32]⟩ w).mono ?_
    rintro e w' ⟨rfl, rfl⟩
    exact ⟨rfl, Ext.refl _⟩

end Go.Proofs.YtfglmoedicijkaaGreatDoor

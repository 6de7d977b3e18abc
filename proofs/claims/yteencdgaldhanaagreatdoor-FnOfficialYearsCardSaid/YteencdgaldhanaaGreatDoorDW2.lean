/-
  Texts of spans and of names: the program's and the reference's functions.
-/
import Derived.Test.YteencdgaldhanaaGreatDoorDW
import Derived.Test.YteencdgaldhanaaGreatDoorNI
import Derived.Test.YteencdgaldhanaaGreatDoorM0
import Derived.Test.YteencdgaldhanaaGreatDoorRSC
import Derived.Deep.RegionHeld3
import Derived.Lib.Join
namespace Go.Proofs.YteencdgaldhanaaGreatDoor
open Go.RowKit

def spanTB (a b : Int) : ByteArray := ⟨(spanT a b).toArray⟩
theorem spanTB_app (a b : Int) : spanTB a b = itoaB a ++ ⟨#[46, 46]⟩ ++ itoaB b := by
  refine eqS.1 ?_
  rw [ByteArray.data_append, ByteArray.data_append, Array.toList_append, Array.toList_append]
  show spanT a b = _
  rw [spanT]
  simp [itoaB]
theorem spanB_bd {x : SpanV} (h : spanB x = true) : (-1000000000000000 ≤ x.from_ ∧ x.from_ ≤ 1000000000000000) ∧ (-1000000000000000 ≤ x.to_ ∧ x.to_ ≤ 1000000000000000) := by
  obtain ⟨h1, h2, _⟩ := spanB_iff.1 h
  omega
/-- The text of a name. -/
def nameT (x : NameV) : List UInt8 := x.text.data.toList ++ 47 :: (x.lang.data.toList ++ 47 :: (Lib.itoa x.status ++ 47 :: spanT x.from_ x.to_))
def nameTB (x : NameV) : ByteArray := ⟨(nameT x).toArray⟩
theorem nameTB_app (x : NameV) : nameTB x = x.text ++ ⟨#[47]⟩ ++ x.lang ++ ⟨#[47]⟩ ++ itoaB x.status ++ ⟨#[47]⟩ ++ spanTB x.from_ x.to_ := by
  refine eqS.1 ?_
  simp only [ByteArray.data_append, Array.toList_append]
  show nameT x = _
  rw [nameT]
  simp [itoaB, spanTB]
theorem nameTB_join (x : NameV) : (⟨(Lib.join ([x.text, x.lang, itoaB x.status, spanTB x.from_ x.to_].map (·.data.toList)) [47]).toArray⟩ : ByteArray) = nameTB x := by
  refine eqS.1 ?_
  show Lib.join ([x.text, x.lang, itoaB x.status, spanTB x.from_ x.to_].map (·.data.toList)) [47] = nameT x
  simp only [List.map_cons, List.map_nil]
  rw [Lib.join_cons]
  simp [Lib.joinTail, nameT, itoaB, spanTB]

theorem nameB_parts {x : NameV} (h : nameB x = true) : 0 ≤ x.status ∧ x.status ≤ 2 ∧ spanB ⟨x.from_, x.to_⟩ = true := by
  rw [nameB] at h
  simp only [Bool.and_eq_true] at h
  have := inB_iff.1 h.2.2.1
  exact ⟨this.1, this.2, h.2.2.2⟩

end Go.Proofs.YteencdgaldhanaaGreatDoor

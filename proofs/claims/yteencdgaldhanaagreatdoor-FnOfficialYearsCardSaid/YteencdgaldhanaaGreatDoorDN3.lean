/-
  The reference's draws of FnNameTexts.
-/
import Derived.Test.YteencdgaldhanaaGreatDoorDN2
import Derived.Test.YteencdgaldhanaaGreatDoorDW2
import Derived.Test.YteencdgaldhanaaGreatDoorNI
namespace Go.Proofs.YteencdgaldhanaaGreatDoor
open Go.RowKit

/-- A draw whose source is new memory leaves all that was. -/
theorem draw_ext {w0 w w' : World} {g : Nat} (x : Ext w0 w) (h : Drew w g w') (hg : w0.heap.size ≤ g) : Ext w0 w' := x.grown h.2 (by rintro k e; cases e; exact hg)

theorem nameTB_size {x : NameV} (h : nameB x = true) (hx : x.text.size ≤ 217 ∧ x.lang.size ≤ 17) : (nameTB x).size ≤ 1000 := by
  obtain ⟨s0, s1, h4⟩ := nameB_parts h
  obtain ⟨⟨b0, b1⟩, b2, b3⟩ := spanB_bd h4
  simp only at b0 b1 b2 b3
  have e0 := itoaB_size (n := x.status) (by omega) (by omega)
  have e1 := itoaB_size (n := x.from_) (by omega) (by omega)
  have e2 := itoaB_size (n := x.to_) (by omega) (by omega)
  rw [nameTB_app, spanTB_app]
  simp only [ByteArray.size_append]
  have c1 : (⟨#[47]⟩ : ByteArray).size = 1 := rfl
  have c2 : (⟨#[46, 46]⟩ : ByteArray).size = 2 := rfl
  omega

end Go.Proofs.YteencdgaldhanaaGreatDoor

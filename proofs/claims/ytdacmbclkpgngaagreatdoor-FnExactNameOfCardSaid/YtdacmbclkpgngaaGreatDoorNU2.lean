/-
  UsedIn and OfficialIn on both sides.
-/
import Derived.Test.YtdacmbclkpgngaaGreatDoorNU
namespace Go.Proofs.YtdacmbclkpgngaaGreatDoor
open Go.RowKit

def usedR (xs : List NameV) (y : Int) : List Int := if codeN xs true y = 0 then usedL xs y else []
theorem aa_lang : langB ⟨#[97, 97]⟩ = true := by decide

/-! The official name. -/
def offY (lang : ByteArray) (y : Int) (x : NameV) : Bool := offB x lang && inB y x.from_ x.to_
def offI (xs : List NameV) (lang : ByteArray) (y : Int) : Int := idxP (offY lang y) xs

/-- What OfficialIn answers. -/
def offC (xs : List NameV) (s : ByteArray) (y : Int) : Int := if codeN xs (langB s) y = 0 then (if offI xs s y < 0 then 4 else 0) else codeN xs (langB s) y
def offV (xs : List NameV) (s : ByteArray) (y : Int) : Int := if codeN xs (langB s) y = 0 ∧ 0 ≤ offI xs s y then offI xs s y else 0
theorem off_code {xs : List NameV} {s : ByteArray} {y : Int} (h : codeN xs (langB s) y ≠ 0) : offV xs s y = 0 ∧ offC xs s y = codeN xs (langB s) y := ⟨if_neg fun h2 => h h2.1, if_neg h⟩
theorem off_none {xs : List NameV} {s : ByteArray} {y : Int} (h : codeN xs (langB s) y = 0) (h2 : offI xs s y < 0) : offV xs s y = 0 ∧ offC xs s y = 4 := ⟨if_neg fun h3 => by omega, by rw [offC, if_pos h, if_pos h2]⟩
theorem off_some {xs : List NameV} {s : ByteArray} {y : Int} (h : codeN xs (langB s) y = 0) (h2 : ¬ offI xs s y < 0) : offV xs s y = offI xs s y ∧ offC xs s y = 0 := ⟨if_pos ⟨h, by omega⟩, by rw [offC, if_pos h, if_neg h2]⟩

end Go.Proofs.YtdacmbclkpgngaaGreatDoor

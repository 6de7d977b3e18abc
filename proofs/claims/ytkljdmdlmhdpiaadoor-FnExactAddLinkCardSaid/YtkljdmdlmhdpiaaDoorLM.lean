/-
  WayUp and MeetingIn on both sides.
-/
import Derived.Test.YtkljdmdlmhdpiaaDoorLN
namespace Go.Proofs.YtkljdmdlmhdpiaaDoor
open Go.RowKit

/-- A list of texts and a code. -/
def RetTC (w : World) (ss : List ByteArray) (code : Int) (e : Ending) (w' : World) : Prop := ∃ v, e = .returned (.tuple #[v, .int .i64 code]) ∧ ∃ a n c, v = .slice a n c ∧ n ≤ 1048576 ∧ OwnS w' w.heap.size a n c ss ∧ Ext w w'
theorem RetTC.nil {w : World} {code : Int} {w' : World} (h : Ext w w') : RetTC w [] code (.returned (.tuple #[.slice none 0 0, .int .i64 code])) w' := ⟨_, rfl, none, 0, 0, rfl, by decide, ⟨OwnG.isNil _ _ _ _, by simp⟩, h⟩
def wayV (xs : List LinkV) (s : ByteArray) (y : Int) : List ByteArray := if codeK xs (wordB s) y = 0 then wayU xs s y else []
theorem way_len {xs : List LinkV} (h : linksB xs = true) (hok : ∀ x ∈ xs, okLink x) {s : ByteArray} (hs : s.size ≤ 1073741824) (y : Int) : (wayU xs s y).length ≤ 21 := by
  obtain ⟨l, hl, hp, _⟩ := wayU_spec (y := y) hok hs
  have := hp.len
  have := (linksB_at h).2.1
  rw [hl]; omega
theorem wayW_eq {xs : List LinkV} (h : linksB xs = true) (hok : ∀ x ∈ xs, okLink x) {s : ByteArray} (hs : s.size ≤ 1073741824) (y : Int) : wayW xs s y = wayU xs s y := by
  rw [wayW, no_circ h hok hs]; rfl

/-! Where two ways meet. -/
def mtI (xs : List LinkV) (s t : ByteArray) (y : Int) : Int := idxP (fun c => hasS (wayU xs t y) c) (wayU xs s y)
def mtK (xs : List LinkV) (s t : ByteArray) (y : Int) : Int := codeK xs (wordB s && wordB t) y
def mtV (xs : List LinkV) (s t : ByteArray) (y : Int) : ByteArray := if mtK xs s t y = 0 ∧ 0 ≤ mtI xs s t y then nthS (wayU xs s y) (mtI xs s t y).toNat else ⟨#[]⟩
def mtC (xs : List LinkV) (s t : ByteArray) (y : Int) : Int := if mtK xs s t y = 0 then (if 0 ≤ mtI xs s t y then 0 else 4) else mtK xs s t y
theorem mt_code {xs : List LinkV} {s t : ByteArray} {y : Int} (h : mtK xs s t y ≠ 0) : mtV xs s t y = ⟨#[]⟩ ∧ mtC xs s t y = mtK xs s t y := ⟨if_neg fun h2 => h h2.1, if_neg h⟩
theorem mt_none {xs : List LinkV} {s t : ByteArray} {y : Int} (h : mtK xs s t y = 0) (h2 : mtI xs s t y = -1) : mtV xs s t y = ⟨#[]⟩ ∧ mtC xs s t y = 4 := ⟨if_neg fun h3 => by omega, by rw [mtC, if_pos h, if_neg (by omega)]⟩
theorem mt_some {xs : List LinkV} {s t : ByteArray} {y : Int} {k : Nat} (h : mtK xs s t y = 0) (h2 : mtI xs s t y = (k : Nat)) : mtV xs s t y = nthS (wayU xs s y) k ∧ mtC xs s t y = 0 := ⟨by rw [mtV, if_pos ⟨h, by omega⟩, h2]; rfl, by rw [mtC, if_pos h, if_pos (by omega)]⟩
theorem wordsB_two (s t : ByteArray) : wordsB [s, t] = (wordB s && wordB t) := by simp [wordsB]

end Go.Proofs.YtkljdmdlmhdpiaaDoor

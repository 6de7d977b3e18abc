/-
  Answers with codes; indices that a test selects.
-/
import Derived.Test.YtopfnfaoomigmaaDoorFP
namespace Go.Proofs.YtopfnfaoomigmaaDoor
open Go.RowKit

def selN (n : Nat) (p : Nat → Bool) : List Int := ((List.range n).filter p).map fun (i : Nat) => (i : Int)
theorem selN_yes {k : Nat} {p : Nat → Bool} (h : p k = true) : selN (k + 1) p = selN k p ++ [(k : Int)] := by
  simp [selN, List.range_succ, h]
theorem selN_no {k : Nat} {p : Nat → Bool} (h : p k = false) : selN (k + 1) p = selN k p := by
  simp [selN, List.range_succ, h]
theorem selN_len (k : Nat) (p : Nat → Bool) : (selN k p).length ≤ k := by
  rw [selN, List.length_map]
  exact Nat.le_trans (List.length_filter_le _ _) (by simp)
/-- What is selected is an index at which the test holds. -/
theorem selN_at {n : Nat} {p : Nat → Bool} {m : Nat} (hm : m < (selN n p).length) : ∃ i, i < n ∧ p i = true ∧ nth (selN n p) m = (i : Nat) := by
  have hm' : m < ((List.range n).filter p).length := by simpa [selN] using hm
  have h := List.getElem_mem hm'
  rw [List.mem_filter, List.mem_range] at h
  refine ⟨_, h.1, h.2, ?_⟩
  rw [nth_eq hm]
  simp [selN]
/-- The first selected index at which a second test holds is the first at which both do. -/
theorem selN_first {n : Nat} {p q : Nat → Bool} {m i : Nat} (hm : m < (selN n p).length) (hi : nth (selN n p) m = (i : Nat)) (hq : q i = true) (hb : ∀ j, j < m → ∀ k : Nat, nth (selN n p) j = (k : Nat) → q k = false) :
    i < n ∧ p i = true ∧ ∀ j, j < i → (p j && q j) = false := by
  have hm' : m < ((List.range n).filter p).length := by simpa [selN] using hm
  have gi : ∀ j (hj : j < ((List.range n).filter p).length), nth (selN n p) j = (((List.range n).filter p)[j] : Nat) := fun j hj => by
    rw [nth_eq (by simpa [selN] using hj)]; simp [selN]
  have hfind : ((List.range n).filter p).find? q = some i := by
    rw [List.find?_eq_some_iff_getElem]
    refine ⟨hq, m, hm', ?_, fun j hj => ?_⟩
    · have := gi m hm'
      rw [hi] at this
      exact (Int.ofNat.inj this).symm
    · rw [hb j hj _ (gi j (by omega))]; rfl
  rw [List.find?_filter, List.find?_range_eq_some] at hfind
  obtain ⟨h1, h2, h3⟩ := hfind
  simp only [decide_eq_true_eq] at h1
  refine ⟨List.mem_range.1 h2, by simpa using h1.1, fun j hj => ?_⟩
  have := h3 j hj
  cases hp : p j <;> cases hq : q j <;> simp_all
theorem selN_none {n : Nat} {p q : Nat → Bool} (hb : ∀ j, j < (selN n p).length → ∀ k : Nat, nth (selN n p) j = (k : Nat) → q k = false) : ∀ j, j < n → (p j && q j) = false := by
  intro j hj
  cases hp : p j
  · rfl
  · have hmem : j ∈ (List.range n).filter p := List.mem_filter.2 ⟨List.mem_range.2 hj, hp⟩
    obtain ⟨m, hm, he⟩ := List.getElem_of_mem hmem
    rw [hb m (by simpa [selN] using hm) j (by rw [nth_eq (by simpa [selN] using hm)]; simp [selN, he]), Bool.and_false]

theorem Ext.drewN {a b : World} (h : Ext a b) (n : Nat) : Ext a (b.drewN n) := h.trans ((Still.refl b).drewN n).ext

def OwnV (w : World) (B : Nat) (v : Value) (zs : List Int) : Prop := ∃ a n c, v = .slice a n c ∧ OwnI w B a n c zs
theorem OwnV.isNil (w : World) (B : Nat) : OwnV w B (.slice none 0 0) [] := ⟨_, _, _, rfl, OwnI.isNil w B, by decide⟩
theorem OwnV.lit0 (w : World) {B : Nat} (hB : B ≤ w.heap.size) : OwnV (w.alloc (.cells #[] 2)) B (.slice (some ⟨w.heap.size, 0, none⟩) 0 0) [] := ⟨_, _, _, rfl, OwnI.lit0 w hB, by decide⟩
/-- A list and a code. -/
def RetLC (w : World) (zs : List Int) (code : Int) (e : Ending) (w' : World) : Prop := ∃ v, e = .returned (.tuple #[v, .int .i64 code]) ∧ NewI w w' zs v
def RetBC (w : World) (b : Bool) (code : Int) (e : Ending) (w' : World) : Prop := e = .returned (.tuple #[.bool b, .int .i64 code]) ∧ Ext w w'
def RetIC (w : World) (z : Int) (code : Int) (e : Ending) (w' : World) : Prop := e = .returned (.tuple #[.int .i64 z, .int .i64 code]) ∧ Ext w w'
theorem NewI.nil (w w' : World) (h : Ext w w') : NewI w w' [] (.slice none 0 0) := ⟨none, 0, 0, rfl, ⟨OwnI.isNil _ _, by decide⟩, h⟩
theorem NewI.pre {w0 w w' : World} {zs : List Int} {v : Value} (h0 : Ext w0 w) (h : NewI w w' zs v) : NewI w0 w' zs v := by
  obtain ⟨a, n, c, rfl, ho, hx⟩ := h
  exact ⟨a, n, c, rfl, ho.mono h0.size, h0.trans hx⟩

end Go.Proofs.YtopfnfaoomigmaaDoor

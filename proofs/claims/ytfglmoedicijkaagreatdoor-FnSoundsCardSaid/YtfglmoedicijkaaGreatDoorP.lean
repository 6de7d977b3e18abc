/-
  Plain words on lists of ints: an element, bounds, a search. No program in sight.
-/
namespace Go.Proofs.YtfglmoedicijkaaGreatDoor

/-- The element with an index (0 beyond the end), behind a name. -/
def nth (zs : List Int) (k : Nat) : Int := zs.getD k 0
theorem nth_eq {zs : List Int} {k : Nat} (h : k < zs.length) : nth zs k = zs[k] := by simp [nth, h]

/-- x lies within lo and hi. -/
def inB (x lo hi : Int) : Bool := decide (lo ≤ x) && decide (x ≤ hi)
theorem inB_iff {x lo hi : Int} : inB x lo hi = true ↔ lo ≤ x ∧ x ≤ hi := by simp [inB]
theorem inB_yes {x lo hi : Int} (h1 : lo ≤ x) (h2 : x ≤ hi) : inB x lo hi = true := inB_iff.2 ⟨h1, h2⟩
theorem inB_not {x lo hi : Int} : inB x lo hi = false ↔ ¬ (lo ≤ x ∧ x ≤ hi) := by rw [← inB_iff]; simp

/-- All of zs lie within lo and hi. -/
def allIn (zs : List Int) (lo hi : Int) : Bool := zs.all fun z => inB z lo hi
theorem allIn_false {zs : List Int} {lo hi : Int} {k : Nat} (hk : k < zs.length) (h : inB (nth zs k) lo hi = false) : allIn zs lo hi = false := by
  rw [allIn, List.all_eq_false]
  exact ⟨zs[k], List.getElem_mem hk, by simpa [nth_eq hk] using h⟩
theorem allIn_true {zs : List Int} {lo hi : Int} (h : ∀ k, k < zs.length → inB (nth zs k) lo hi = true) : allIn zs lo hi = true := by
  rw [allIn, List.all_eq_true]
  intro z hz
  obtain ⟨k, hk, rfl⟩ := List.getElem_of_mem hz
  simpa [nth_eq hk] using h k hk

/-- x stands in zs. -/
def hasI (zs : List Int) (x : Int) : Bool := zs.contains x
theorem mem_nth {zs : List Int} {x : Int} {k : Nat} (hk : k < zs.length) (h : nth zs k = x) : hasI zs x = true := by
  rw [hasI, List.contains_iff_mem, ← h, nth_eq hk]
  exact List.getElem_mem hk
theorem not_mem_nth {zs : List Int} {x : Int} (h : ∀ k, k < zs.length → nth zs k ≠ x) : hasI zs x = false := by
  rw [hasI, ← Bool.not_eq_true, List.contains_iff_mem]
  intro hx
  obtain ⟨k, hk, e⟩ := List.getElem_of_mem hx
  exact h k hk (by rw [nth_eq hk, e])

/-- The first place of x, or -1. -/
def idxOf (zs : List Int) (x : Int) : Int := match zs.findIdx? (· == x) with | some k => (k : Int) | none => -1
theorem idxOf_at {zs : List Int} {x : Int} {k : Nat} (hk : k < zs.length) (h : nth zs k = x) (hp : ∀ j, j < k → nth zs j ≠ x) : idxOf zs x = k := by
  have e : zs.findIdx? (· == x) = some k := by
    rw [List.findIdx?_eq_some_iff_getElem]
    refine ⟨hk, by rw [nth_eq hk] at h; simp [h], fun j hj => ?_⟩
    have := hp j hj
    rw [nth_eq (by omega)] at this
    simpa using this
  rw [idxOf, e]
theorem idxOf_none {zs : List Int} {x : Int} (hp : ∀ j, j < zs.length → nth zs j ≠ x) : idxOf zs x = -1 := by
  have e : zs.findIdx? (· == x) = none := by
    rw [List.findIdx?_eq_none_iff]
    intro y hy
    obtain ⟨j, hj, rfl⟩ := List.getElem_of_mem hy
    have := hp j hj
    rw [nth_eq hj] at this
    simpa using this
  rw [idxOf, e]
theorem idxOf_ge {zs : List Int} {x : Int} : decide (0 ≤ idxOf zs x) = hasI zs x := by
  unfold hasI
  by_cases h : x ∈ zs
  · have : zs.findIdx? (· == x) ≠ none := by
      intro e
      rw [List.findIdx?_eq_none_iff] at e
      simpa using e x h
    obtain ⟨k, hk⟩ := Option.ne_none_iff_exists'.1 this
    rw [idxOf, hk]
    simp [h]
  · have : zs.findIdx? (· == x) = none := by
      rw [List.findIdx?_eq_none_iff]
      intro y hy
      simp
      rintro rfl
      exact h hy
    rw [idxOf, this]
    simp [h]

/-- The marks k, k+1, .. . -/
def marks (k : Int) (n : Nat) : List Int := (List.range n).map fun (i : Nat) => k + (i : Int)
theorem marks_len (k : Int) (n : Nat) : (marks k n).length = n := by simp [marks]
theorem marks_get (k : Int) (n i : Nat) (h : i < n) : nth (marks k n) i = k + i := by simp [nth, marks, h]

end Go.Proofs.YtfglmoedicijkaaGreatDoor

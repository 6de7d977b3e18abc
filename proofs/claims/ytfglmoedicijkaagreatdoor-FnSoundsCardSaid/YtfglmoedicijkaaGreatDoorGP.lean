/-
  Groups of indices with the same value, in the order of their firsts (plain).
-/
import Derived.Test.YtfglmoedicijkaaGreatDoorRows
namespace Go.Proofs.YtfglmoedicijkaaGreatDoor

/-- No index ahead of i has the same f. -/
def firstG {β : Type} [DecidableEq β] (f : Nat → β) (i : Nat) : Bool := (List.range i).all fun j => decide (f j ≠ f i)
def firstsG {β : Type} [DecidableEq β] (f : Nat → β) (k : Nat) : List Nat := (List.range k).filter (firstG f)
/-- The indices below n at which f is as at i. -/
def likeG {β : Type} [DecidableEq β] (f : Nat → β) (n i : Nat) : List Int := ((List.range n).filter fun m => decide (f m = f i)).map fun (m : Nat) => (m : Int)
def grps {β : Type} [DecidableEq β] (f : Nat → β) (k n : Nat) : List (List Int) := (firstsG f k).map (likeG f n)
section
variable {β : Type} [DecidableEq β] {f : Nat → β}
theorem firstG_iff {i : Nat} : firstG f i = true ↔ ∀ j, j < i → f j ≠ f i := by simp [firstG]
theorem firsts_mem {k i : Nat} : i ∈ firstsG f k ↔ i < k ∧ firstG f i = true := by simp [firstsG]
theorem firsts_in {k : Nat} (h : firstG f k = true) : firstsG f (k + 1) = firstsG f k ++ [k] := by simp [firstsG, List.range_succ, List.filter_append, h]
theorem firsts_out {k : Nat} (h : firstG f k = false) : firstsG f (k + 1) = firstsG f k := by simp [firstsG, List.range_succ, List.filter_append, h]
theorem firsts_len (k : Nat) : (firstsG f k).length ≤ k := by
  have := List.length_filter_le (firstG f) (List.range k)
  simpa [firstsG] using this
theorem firsts_sorted (k : Nat) : (firstsG f k).Pairwise (· < ·) := List.Pairwise.filter _ (List.pairwise_lt_range)
theorem like_in {n i : Nat} (h : f n = f i) : likeG f (n + 1) i = likeG f n i ++ [(n : Int)] := by simp [likeG, List.range_succ, List.filter_append, h]
theorem like_out {n i : Nat} (h : f n ≠ f i) : likeG f (n + 1) i = likeG f n i := by simp [likeG, List.range_succ, List.filter_append, h]
theorem like_len (n i : Nat) : (likeG f n i).length ≤ n := by
  have := List.length_filter_le (fun m => decide (f m = f i)) (List.range n)
  simpa [likeG] using this
theorem like_new {i : Nat} (h : firstG f i = true) : likeG f i i = [] := by
  have : (List.range i).filter (fun m => decide (f m = f i)) = [] := by
    rw [List.filter_eq_nil_iff]
    intro m hm
    simpa using firstG_iff.1 h m (List.mem_range.1 hm)
  rw [likeG, this]; rfl
/-- A group begins with its first. -/
theorem like_head {n i : Nat} (hi : i < n) (h : firstG f i = true) : ∃ l, likeG f n i = (i : Int) :: l := by
  induction n with
  | zero => omega
  | succ n ih =>
    by_cases e : i = n
    · subst e
      rw [like_in rfl, like_new h]
      exact ⟨[], rfl⟩
    · obtain ⟨l, hl⟩ := ih (by omega)
      by_cases hf : f n = f i
      · rw [like_in hf, hl]; exact ⟨l ++ [(n : Int)], rfl⟩
      · rw [like_out hf, hl]; exact ⟨l, rfl⟩
theorem first_distinct {k a b : Nat} (ha : a < (firstsG f k).length) (hb : b < (firstsG f k).length) (h : f (firstsG f k)[a] = f (firstsG f k)[b]) : a = b := by
  have key : ∀ a b (ha : a < (firstsG f k).length) (hb : b < (firstsG f k).length), f (firstsG f k)[a] = f (firstsG f k)[b] → ¬ a < b := by
    intro a b ha hb h hab
    have hlt := List.pairwise_iff_getElem.1 (firsts_sorted (f := f) k) a b ha hb hab
    exact firstG_iff.1 (firsts_mem.1 (List.getElem_mem hb)).2 _ hlt h
  have := key a b ha hb h
  have := key b a hb ha h.symm
  omega
/-- The k-th element begins a new group. -/
theorem grps_new {k : Nat} (h : ∀ q (hq : q < (firstsG f k).length), f (firstsG f k)[q] ≠ f k) : grps f (k + 1) (k + 1) = grps f k k ++ [[(k : Int)]] := by
  have h1 : firstG f k = true := by
    cases hf : firstG f k
    · exfalso
      -- the least index with the same f is a first
      have hex : ∃ j, j < k ∧ f j = f k := by
        apply Classical.byContradiction
        intro hn
        have : firstG f k = true := firstG_iff.2 fun j hj he => hn ⟨j, hj, he⟩
        rw [hf] at this; cases this
      have hmin : ∀ m j, j ≤ m → j < k → f j = f k → ∃ i, i < k ∧ f i = f k ∧ firstG f i = true := by
        intro m
        induction m with
        | zero => intro j hj hjk he; obtain rfl : j = 0 := (by omega); exact ⟨0, hjk, he, firstG_iff.2 fun j hj => by omega⟩
        | succ m ih =>
          intro j hj hjk he
          cases hfj : firstG f j
          · have : ∃ t, t < j ∧ f t = f j := by
              apply Classical.byContradiction
              intro hn
              have : firstG f j = true := firstG_iff.2 fun t ht he => hn ⟨t, ht, he⟩
              rw [hfj] at this; cases this
            obtain ⟨t, ht, hte⟩ := this
            exact ih t (by omega) (by omega) (hte.trans he)
          · exact ⟨j, hjk, he, hfj⟩
      obtain ⟨j, hj, he⟩ := hex
      obtain ⟨i, hi, hie, hif⟩ := hmin j j (Nat.le_refl _) hj he
      obtain ⟨q, hq, rfl⟩ := List.getElem_of_mem (firsts_mem.2 ⟨hi, hif⟩)
      exact h q hq hie
    · rfl
  rw [grps, firsts_in h1, List.map_append, List.map_singleton, like_in rfl, like_new h1, List.nil_append]
  congr 1
  rw [grps]
  refine List.map_congr_left fun i hi => ?_
  obtain ⟨q, hq, rfl⟩ := List.getElem_of_mem hi
  exact like_out fun e => h q hq e.symm
/-- The k-th element joins group q. -/
theorem grps_old {k q : Nat} (hq : q < (firstsG f k).length) (h : f (firstsG f k)[q] = f k) : grps f (k + 1) (k + 1) = (grps f k k).set q ((likeG f k (firstsG f k)[q]) ++ [(k : Int)]) := by
  have h1 : firstG f k = false := by
    rw [← Bool.not_eq_true, firstG_iff]
    intro hn
    exact hn _ (firsts_mem.1 (List.getElem_mem hq)).1 h
  rw [grps, firsts_out h1, grps]
  apply List.ext_getElem
  · simp
  · intro i hi1 hi2
    simp only [List.getElem_map, List.getElem_set]
    by_cases e : q = i
    · subst e
      rw [if_pos rfl, like_in h.symm]
    · rw [if_neg e]
      refine like_out fun e2 => e ?_
      have hi : i < (firstsG f k).length := by simpa using hi1
      exact first_distinct hq hi (h.trans e2)
theorem grps_get {k n q : Nat} (hq : q < (firstsG f k).length) : (grps f k n)[q]? = some (likeG f n (firstsG f k)[q]) := by simp [grps, hq]
theorem grps_len (k n : Nat) : (grps f k n).length = (firstsG f k).length := by simp [grps]
/-- The reference's round. -/
theorem grps_in {k n : Nat} (h : firstG f k = true) : grps f (k + 1) n = grps f k n ++ [likeG f n k] := by rw [grps, firsts_in h, List.map_append]; rfl
theorem grps_out {k n : Nat} (h : firstG f k = false) : grps f (k + 1) n = grps f k n := by rw [grps, firsts_out h, grps]
/-- Every index is in exactly one group: the lengths add up. -/
theorem grps_sum (n : Nat) : ((grps f n n).map List.length).sum = n := by
  induction n with
  | zero => rfl
  | succ k ih =>
    by_cases h : ∀ q (hq : q < (firstsG f k).length), f (firstsG f k)[q] ≠ f k
    · rw [grps_new h]; simp [ih]
    · have ⟨q, hq⟩ := Classical.not_forall.1 h
      have ⟨hq, he⟩ := Classical.not_forall.1 hq
      have he := Classical.byContradiction (fun hn => he hn)
      rw [grps_old hq he]
      have hlen : q < (grps f k k).length := by rw [grps_len]; exact hq
      have hget : (grps f k k)[q] = likeG f k (firstsG f k)[q] := by simp [grps]
      have key : ∀ (L : List (List Int)) (q : Nat) (hq : q < L.length) (x : Int), ((L.set q (L[q] ++ [x])).map List.length).sum = (L.map List.length).sum + 1 := by
        intro L
        induction L with
        | nil => intro q hq; simp at hq
        | cons a L ih =>
          intro q hq x
          cases q with
          | zero => simp; omega
          | succ q =>
            have := ih q (by simpa using hq) x
            simp only [List.set_cons_succ, List.map_cons, List.sum_cons, List.getElem_cons_succ]
            omega
      have := key (grps f k k) q hlen k
      rw [hget, ih] at this
      exact this
end

end Go.Proofs.YtfglmoedicijkaaGreatDoor

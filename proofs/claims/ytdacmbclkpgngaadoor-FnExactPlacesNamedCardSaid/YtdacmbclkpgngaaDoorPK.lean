/-
  What a loop picks out of a list: those of the first k elements for which p holds, as f.
-/
import Derived.Test.YtdacmbclkpgngaaDoorOR
namespace Go.Proofs.YtdacmbclkpgngaaDoor

def pickL {α β : Type} (p : α → Bool) (f : α → β) (xs : List α) (k : Nat) : List β := ((xs.take k).filter p).map f
theorem pick_zero {α β : Type} (p : α → Bool) (f : α → β) (xs : List α) : pickL p f xs 0 = [] := by simp [pickL]
theorem pick_out {α β : Type} {p : α → Bool} {f : α → β} {xs : List α} {k : Nat} {x : α} (hk : xs[k]? = some x) (h : p x = false) : pickL p f xs (k + 1) = pickL p f xs k := by
  obtain ⟨hlt, rfl⟩ := List.getElem?_eq_some_iff.1 hk
  rw [pickL, pickL, List.take_succ_eq_append_getElem hlt, List.filter_append, List.map_append]
  simp [h]
theorem pick_in {α β : Type} {p : α → Bool} {f : α → β} {xs : List α} {k : Nat} {x : α} (hk : xs[k]? = some x) (h : p x = true) : pickL p f xs (k + 1) = pickL p f xs k ++ [f x] := by
  obtain ⟨hlt, rfl⟩ := List.getElem?_eq_some_iff.1 hk
  rw [pickL, pickL, List.take_succ_eq_append_getElem hlt, List.filter_append, List.map_append]
  simp [h]
theorem pick_len {α β : Type} (p : α → Bool) (f : α → β) (xs : List α) (k : Nat) : (pickL p f xs k).length ≤ k := by
  rw [pickL, List.length_map]
  exact Nat.le_trans (List.length_filter_le _ _) (by simp; omega)
theorem pick_mem {α β : Type} {p : α → Bool} {f : α → β} {xs : List α} {k : Nat} {z : β} (h : z ∈ pickL p f xs k) : ∃ x ∈ xs, p x = true ∧ f x = z := by
  rw [pickL, List.mem_map] at h
  obtain ⟨x, hx, rfl⟩ := h
  exact ⟨x, List.mem_of_mem_take (List.mem_filter.1 hx).1, (List.mem_filter.1 hx).2, rfl⟩

end Go.Proofs.YtdacmbclkpgngaaDoor

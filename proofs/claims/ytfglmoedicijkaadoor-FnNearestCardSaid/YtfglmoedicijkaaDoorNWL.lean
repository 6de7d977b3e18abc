/-
  The law of nearest words (plain): they are ordered by their distance.
-/
import Derived.Test.YtfglmoedicijkaaDoorNW
namespace Go.Proofs.YtfglmoedicijkaaDoor

/-- The distance of the word at an index. -/
def nwD (ls : List ByteArray) (s : ByteArray) (z : Int) : Int := ed (nthS ls z.toNat) s (nthS ls z.toNat).size s.size
theorem sel_mem {n : Nat} {p : Nat → Bool} {z : Int} (h : z ∈ selN n p) : ∃ i : Nat, i < n ∧ p i = true ∧ z = i := by
  rw [selN] at h
  simp only [List.mem_map, List.mem_filter, List.mem_range] at h
  obtain ⟨i, ⟨h1, h2⟩, rfl⟩ := h
  exact ⟨i, h1, h2, rfl⟩
theorem nwT_mem {ls : List ByteArray} {s : ByteArray} {D : Nat} {z : Int} (h : z ∈ nwT ls s D) : ∃ i : Nat, i < ls.length ∧ z = i ∧ nwD ls s z < D ∧ 0 ≤ nwD ls s z := by
  rw [nwT, List.mem_flatMap] at h
  obtain ⟨d, hd, hz⟩ := h
  obtain ⟨i, hi, hp, rfl⟩ := sel_mem hz
  have e : nwD ls s (i : Int) = d := by
    rw [nwP, beq_iff_eq] at hp
    exact hp
  have := List.mem_range.1 hd
  exact ⟨i, hi, rfl, by omega, by omega⟩
theorem nwT_sorted (ls : List ByteArray) (s : ByteArray) : ∀ D, (nwT ls s D).Pairwise fun a b => nwD ls s a ≤ nwD ls s b
  | 0 => List.Pairwise.nil
  | D + 1 => by
    rw [nwT_succ, List.pairwise_append]
    have key : ∀ z ∈ selN ls.length (nwP ls s D), nwD ls s z = D := fun z hz => by
      obtain ⟨i, hi, hp, rfl⟩ := sel_mem hz
      rw [nwP, beq_iff_eq] at hp
      exact hp
    refine ⟨nwT_sorted ls s D, ?_, fun a ha b hb => ?_⟩
    · rw [List.pairwise_iff_forall_sublist]
      intro a b hab
      have ha := hab.subset (List.mem_cons_self ..)
      have hb := hab.subset (List.mem_cons_of_mem _ (List.mem_cons_self ..))
      rw [key a ha, key b hb]; exact Int.le_refl _
    · obtain ⟨i, _, _, h, _⟩ := nwT_mem ha
      rw [key b hb]; omega
/-- The k-th of the nearest words. -/
theorem nw_at {ls : List ByteArray} {s : ByteArray} {m : Int} (h : codeW ls s m = 0) {k : Nat} (hk : k < (nwL ls s m).length) :
    wordsB ls = true ∧ wordB s = true ∧ ∃ i : Nat, nth (nwL ls s m) k = i ∧ i < ls.length ∧ 0 ≤ nwD ls s i ∧ nwD ls s i ≤ m ∧ (0 < k → nwD ls s (nth (nwL ls s m) (k - 1)) ≤ nwD ls s i) := by
  have hb : (wordsB ls && wordB s) = true := by
    cases hb : (wordsB ls && wordB s)
    · have h1 : wordsB ls = false ∨ wordB s = false := Bool.and_eq_false_iff.1 hb
      rw [(codeW_bad h1).1] at h
      exact absurd h (by decide)
    · rfl
  rw [Bool.and_eq_true] at hb
  have hm : 0 ≤ m := by
    by_cases h3 : ls.length ≤ 20
    · cases hi : inB m 0 16
      · rw [(codeW_range hb.1 hb.2 h3 hi).1] at h; exact absurd h (by decide)
      · exact (inB_iff.1 hi).1
    · rw [(codeW_long hb.1 hb.2 h3).1] at h; exact absurd h (by decide)
  have hn : nwL ls s m = nwT ls s (m.toNat + 1) := by rw [nwL, if_pos h]
  rw [hn] at hk ⊢
  obtain ⟨i, hi, e, h1, h2⟩ := nwT_mem (List.getElem_mem hk)
  refine ⟨hb.1, hb.2, i, by rw [nth_eq hk, e], hi, by rw [← e]; exact h2, by rw [← e]; omega, fun h0 => ?_⟩
  have := List.pairwise_iff_getElem.1 (nwT_sorted ls s (m.toNat + 1)) (k - 1) k (by omega) hk (by omega)
  rw [nth_eq (by omega), ← e]
  exact this
end Go.Proofs.YtfglmoedicijkaaDoor

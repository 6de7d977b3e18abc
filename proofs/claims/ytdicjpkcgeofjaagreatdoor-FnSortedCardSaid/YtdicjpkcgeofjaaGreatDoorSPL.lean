/-
  Sorted phrases are in order; phrases are ordered as their keys are (plain).
-/
import Derived.Test.YtdicjpkcgeofjaaGreatDoorSFL
namespace Go.Proofs.YtdicjpkcgeofjaaGreatDoor
open Go.RowKit

theorem so_is {ss ls : List ByteArray} {ig : List Int} (h : codeL ss ls ig = 0) : soL ss ls ig = sortC (compC ss ig) ls := if_pos h
theorem so_len {ss ls : List ByteArray} {ig : List Int} (h : codeL ss ls ig = 0) : (soL ss ls ig).length = ls.length := by rw [so_is h, sortC_len]
theorem so_code {ss ls : List ByteArray} {ig : List Int} (h : codeL ss ls ig = 0) : codeL ss (soL ss ls ig) ig = 0 ∧ asB ss (soL ss ls ig) ig = true := by
  have hl := so_len h
  obtain ⟨h1, h2⟩ := codeL_zero h
  obtain ⟨ha, hp, hi, hc⟩ := codeN_zero h1
  have hm : ∀ s ∈ soL ss ls ig, s ∈ ls := fun s hs => by rw [so_is h] at hs; exact sortC_mem.1 hs
  rw [phrasesB, List.all_eq_true] at hp
  rw [canAll, List.all_eq_true] at hc
  have h3 : codeL ss (soL ss ls ig) ig = 0 := codeL_ok (codeN_ok ha (by rw [phrasesB, List.all_eq_true]; exact fun s hs => hp s (hm s hs)) hi (by rw [canAll, List.all_eq_true]; exact fun s hs => hc s (hm s hs))) (by omega)
  refine ⟨h3, ?_⟩
  rw [asB, decide_eq_true h3, Bool.true_and, so_is h]
  exact sortC_sorted (compC_anti ss ig) ls
theorem so_nil {ss ls : List ByteArray} {ig : List Int} (h : codeL ss ls ig = 0) : codeL ss ls [] = 0 := by
  obtain ⟨h1, h2⟩ := codeL_zero h
  obtain ⟨ha, hp, _, hc⟩ := codeN_zero h1
  exact codeL_ok (codeN_ok ha hp rfl hc) h2
theorem key_order {ss ls : List ByteArray} (h : codeL ss ls [] = 0) {k : Nat} (hk : k + 1 < (soL ss ls []).length) :
    codeN ss [nthS (soL ss ls []) k] [] = 0 ∧ codeN ss [nthS (soL ss ls []) (k + 1)] [] = 0 ∧ Op.bytesLess (skT ss (nthS (soL ss ls []) (k + 1))).toList (skT ss (nthS (soL ss ls []) k)).toList = false := by
  obtain ⟨h1, h2⟩ := codeL_zero h
  obtain ⟨ha, hp, _, hc⟩ := codeN_zero h1
  rw [phrasesB, List.all_eq_true] at hp
  rw [canAll, List.all_eq_true] at hc
  have hm : ∀ s ∈ soL ss ls [], s ∈ ls := fun s hs => by rw [so_is h] at hs; exact sortC_mem.1 hs
  have one : ∀ s ∈ soL ss ls [], codeN ss [s] [] = 0 := fun s hs => codeN_ok ha (by rw [phrasesB, List.all_eq_true]; intro t ht; rw [List.mem_singleton.1 ht]; exact hp s (hm s hs)) rfl (by rw [canAll, List.all_eq_true]; intro t ht; rw [List.mem_singleton.1 ht]; exact hc s (hm s hs))
  have m1 := nthS_mem (ss := soL ss ls []) (k := k) (by omega)
  have m2 := nthS_mem hk
  have o1 := one _ m1
  have o2 := one _ m2
  refine ⟨o1, o2, ?_⟩
  rw [ltS_less, skT, skT, if_pos o1, if_pos o2, ltS]
  have hs := sortC_sorted (compC_anti ss []) ls
  rw [← so_is h, sortedC_iff] at hs
  have hle := hs k hk
  rw [← nthS_eq hk, ← nthS_eq (by omega)] at hle
  have p1 := hp _ (hm _ m1)
  have p2 := hp _ (hm _ m2)
  generalize nthS (soL ss ls []) k = s at hle p1 ⊢
  generalize nthS (soL ss ls []) (k + 1) = t at hle p2 ⊢
  have hcw : cmpW (spL ss s) (spL ss t) ≤ 0 := by
    rw [compC, onceC, ← spE_nil p1, ← spE_nil p2] at hle
    by_cases e : cmpW (spL ss s) (spL ss t) = 0
    · omega
    · rwa [if_neg e] at hle
  have b1 : ∀ w ∈ spL ss s, ∀ z ∈ w, 0 ≤ z ∧ z < 90 := fun w hw z hz => by
    have := (spL_ok ha p1 w hw).2 z hz
    omega
  have b2 : ∀ w ∈ spL ss t, ∀ z ∈ w, 0 ≤ z ∧ z < 90 := fun w hw z hz => by
    have := (spL_ok ha p2 w hw).2 z hz
    omega
  exact decide_eq_false (key_le b1 b2 hcw)

theorem not_gt {p q : ByteArray} (h : Op.bytesLess q.toList p.toList = false) (h1 : (!Op.bytesLess p.toList q.toList) = true ∧ (!p.toList == q.toList) = true) : False := by
  obtain ⟨h2, h3⟩ := h1
  rw [Bool.not_eq_true', ltS_less] at h2
  rw [ltS_less] at h
  rcases ltS_tot p q with e | rfl | e
  · rw [e] at h2; cases h2
  · simp at h3
  · rw [e] at h; cases h

end Go.Proofs.YtdicjpkcgeofjaaGreatDoor

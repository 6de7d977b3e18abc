/-
  A list of ints sorted, then each once.
-/
import Derived.Test.YtdicjpkcgeofjaaGreatDoorOR
import Derived.Test.YtdicjpkcgeofjaaGreatDoorShelfI
import Derived.Sort.OwnSortedInts
namespace Go.Proofs.YtdicjpkcgeofjaaGreatDoor
open Go.RowKit Go.Sort

def ltI (a b : Int) : Bool := decide (a < b)
/-- All of a list in order, each once. -/
def sortI (zs : List Int) : List Int := Lib.compact (zs.mergeSort fun x y => decide (x ≤ y))
theorem sortI_spec (zs : List Int) : (sortI zs).Pairwise (fun a b => a < b) ∧ ∀ x, x ∈ sortI zs ↔ x ∈ zs := by
  have hs : (zs.mergeSort fun x y => decide (x ≤ y)).Pairwise fun a b => a < b ∨ a = b := by
    refine (List.pairwise_mergeSort (le := fun x y => decide (x ≤ y)) ?_ ?_ _).imp ?_
    · intro a b c h1 h2
      rw [decide_eq_true_eq] at *
      omega
    · intro a b
      rw [Bool.or_eq_true, decide_eq_true_eq, decide_eq_true_eq]
      omega
    · intro a b h
      rw [decide_eq_true_eq] at h
      omega
  have hc := compact_sorted (r := fun a b : Int => a < b) (fun a b c => Int.lt_trans) _ hs
  exact ⟨hc.1, fun x => by rw [sortI, hc.2, List.mem_mergeSort]⟩
theorem sortI_eq {zs ys : List Int} (h : ys.Pairwise fun a b => a < b) (hm : ∀ x, x ∈ ys ↔ x ∈ zs) : sortI zs = ys :=
  sorted_ext (r := fun a b : Int => a < b) (fun a => Int.lt_irrefl a) (fun a b c => Int.lt_trans) (sortI_spec zs).1 h fun x => by rw [(sortI_spec zs).2, hm]
theorem sortI_len (zs : List Int) : (sortI zs).length ≤ zs.length := by
  have h : ∀ m, (Lib.compactUpTo (zs.mergeSort fun x y => decide (x ≤ y)).toArray m).length ≤ m := by
    intro m
    rw [Lib.compactUpTo, List.length_map]
    exact Nat.le_trans (List.length_filter_le _ _) (by simp)
  have := h (zs.mergeSort fun x y => decide (x ≤ y)).length
  rw [List.length_mergeSort] at this
  rw [sortI, Lib.compact, List.length_mergeSort]
  exact this

/-- What the two calls of the library leave of a slice of the call's own. -/
theorem sortI64_any (g n c B : Nat) (zs : List Int) (w : World) (ho : OwnI w B (some ⟨g, 0, none⟩) n c zs) :
    Calls Tryz.prog 38 #[.slice (some ⟨g, 0, none⟩) n c] w fun e w' => e = .returned (.tuple #[]) ∧ OwnI w' B (some ⟨g, 0, none⟩) n c (zs.mergeSort fun x y => decide (x ≤ y)) ∧ Below B w w' := by
  obtain ⟨g', cap, hv, hBg, hg, _, hcm, hlen, hH⟩ := Lib.holds_of_ownsRow ho.1 (by simp)
  obtain ⟨rfl, rfl⟩ : g = g' ∧ c = cap := by cases hv; exact ⟨rfl, rfl⟩
  have hts : (zs.mergeSort fun x y => decide (x ≤ y)).length = n := by rw [List.length_mergeSort]; exact hlen
  have hS := Tryz.slices_Sort_i64 g 0 c zs w hH hg (by have := ho.2; omega)
  rw [hlen] at hS
  refine hS.mono ?_
  rintro e w' ⟨rfl, k, os, rfl⟩
  refine ⟨rfl, ⟨?_, ho.2⟩, ?_⟩
  · rcases ho.1.2 with ⟨e0, _⟩ | ⟨g1, cap1, cur, e0, hb1, hg1, hn1, hm1, hs1, ht1⟩
    · cases e0
    · cases e0
      have := ownsRow_sortedI (os := os) (n := k) (ss := zs) (ts := zs.mergeSort fun x y => decide (x ≤ y)) (hts.trans hlen.symm) hb1 hg1 (by omega) hm1 hs1
      rwa [hlen] at this
  · exact Below.grown (Below.refl _ _) (grownBy_sortedI _) (by omega) (by intro k e; cases e; exact hBg)
theorem compactI64_any (g n c B : Nat) (zs : List Int) (w : World) (ho : OwnI w B (some ⟨g, 0, none⟩) n c zs) :
    Calls Tryz.prog 39 #[.slice (some ⟨g, 0, none⟩) n c] w fun e w' => e = .returned (.slice (some ⟨g, 0, none⟩) (Lib.compact zs).length c) ∧ OwnI w' B (some ⟨g, 0, none⟩) (Lib.compact zs).length c (Lib.compact zs) ∧ Below B w w' := by
  obtain ⟨g', cap, hv, hBg, hg, hnc, hcm, hlen, hH⟩ := Lib.holds_of_ownsRow ho.1 (by simp)
  obtain ⟨rfl, rfl⟩ : g = g' ∧ c = cap := by cases hv; exact ⟨rfl, rfl⟩
  have hl : (Lib.compact zs).length ≤ n := by
    rw [← hlen, Lib.compact, Lib.compactUpTo, List.length_map]
    exact Nat.le_trans (List.length_filter_le _ _) (by simp)
  have hC := Tryz.slices_Compact_i64 g 0 c zs w hH (by have := ho.2; omega) (by omega)
  rw [hlen] at hC
  refine hC.mono ?_
  rintro e w' ⟨rfl, q, rfl⟩
  refine ⟨rfl, ⟨?_, by have := ho.2; omega⟩, Lib.below_putRow (Below.refl _ _) hBg⟩
  have o2 := Lib.ownsRow_putRow (q := q) (k := (Lib.compact zs).length) (ys := Lib.compact zs ++ List.replicate (n - (Lib.compact zs).length) 0) ho.1 (by simp; omega) hl
  rwa [List.take_left' rfl] at o2

end Go.Proofs.YtdicjpkcgeofjaaGreatDoor

/-
  Ending: a slice of such values that came in.
-/
import Derived.Test.YtmnnpjolicnjiaaDoorNEnding
import Derived.Test.YtmnnpjolicnjiaaDoorW5
namespace Go.Proofs.YtmnnpjolicnjiaaDoor
open Go.ChangeShapes Go.WideShapes Go.ChangeAt Go.RowKit

theorem open_inEnding {H : Type} {enc : TypeId × Value → H} {w : World} {spare : Nat → Bool} {held : Bool} {a : Option Addr} {n c : Nat} {d : DataW H} {p : List MemPlace} (h : DataW.Trod enc Tryd.prog w 0 spare held 27 (.slice a n c) d p) :
    ∃ xs, InEnding w a n xs ∧ n ≤ c := by
  obtain ⟨fuel, hf⟩ := h
  rcases open_slice_fields Tryd.underlying27 Tryd.underlying70 (by kernel_rfl) (by kernel_rfl) hf with ⟨hcs, _⟩ | ⟨x, l, c', m, D, Pl, hcs, _, hl, hm, hmm, _, hi⟩
  · simp [Value.cells] at hcs
    obtain ⟨rfl, rfl, rfl⟩ := hcs
    exact ⟨[], ⟨rfl, by omega, .inl rfl, by simp⟩, Nat.le_refl _⟩
  · simp [Value.cells] at hcs
    obtain ⟨rfl, rfl, rfl⟩ := hcs
    have hnm : n ≤ m := by rw [hmm]; split <;> omega
    have hmx : maxLen = 9223372036854775807 := rfl
    have each : ∀ i, ∃ y : EndingV, i < n → (∀ (j : Nat) u, (layEnding.cells y)[j]? = some u → w.cell? (x.add (i * 3 + j)) = some u) ∧ ok0Ending y := by
      intro i
      by_cases hin : i < n
      · obtain ⟨ys, N, _, _, _, hfld⟩ := hi i (by omega)
        obtain ⟨u0, y0, hc0, _, ht0⟩ := hfld 0 _ rfl
        obtain ⟨v0, hv0, _, hz0⟩ := DataW.trod_string Tryd.underlying9 ht0
        obtain rfl := List.singleton_inj.1 hv0
        obtain ⟨u1, y1, hc1, _, ht1⟩ := hfld 1 _ rfl
        obtain ⟨v1, hv1, _, hz1⟩ := DataW.trod_string Tryd.underlying9 ht1
        obtain rfl := List.singleton_inj.1 hv1
        obtain ⟨u2, y2, hc2, _, ht2⟩ := hfld 2 _ rfl
        obtain ⟨v2, hv2, _, _⟩ := DataW.trod_int Tryd.underlying2 ht2
        obtain rfl := List.singleton_inj.1 hv2
        refine ⟨⟨v0, v1, v2⟩, fun _ => ⟨fun j u hu => ?_, ⟨by have := hz0; show v0.size ≤ _; omega, by have := hz1; show v1.size ≤ _; omega⟩⟩⟩
        have hj := (List.getElem?_eq_some_iff.1 hu).1
        simp only [layEnding, List.length_cons, List.length_nil] at hj
        match j, hj, hu with
        | 0, _, hu => obtain rfl := Option.some.inj hu; exact hc0
        | 1, _, hu => obtain rfl := Option.some.inj hu; exact hc1
        | 2, _, hu => obtain rfl := Option.some.inj hu; exact hc2
      · exact ⟨⟨ByteArray.empty, ByteArray.empty, 0⟩, fun h => absurd h hin⟩
    refine ⟨(List.range n).map fun i => Classical.choose (each i), ⟨by simp, by omega, rd_of_cells fun i u hu => ?_, fun s hs => ?_⟩, hl⟩
    · have hi := (List.getElem?_eq_some_iff.1 hu).1
      rw [flat_len] at hi
      simp only [List.length_map, List.length_range, layEnding] at hi
      have hd : i = i / 3 * 3 + i % 3 := by omega
      have hk : i / 3 < n := by omega
      rw [hd] at hu ⊢
      rw [show ((i / 3 * 3 + i % 3 : Nat)) = i / 3 * layEnding.sz + i % 3 from rfl, flat_get layEnding _ (i / 3) (i % 3) (Classical.choose (each (i / 3))) (by simp [hk]) (show i % 3 < 3 by omega)] at hu
      exact (Classical.choose_spec (each (i / 3)) hk).1 _ _ hu
    · simp only [List.mem_map, List.mem_range] at hs
      obtain ⟨i, hin, rfl⟩ := hs
      exact (Classical.choose_spec (each i) hin).2

end Go.Proofs.YtmnnpjolicnjiaaDoor

/-
  Name: such a value, and a slice of such values, that came in.
-/
import Derived.Test.YteencdgaldhanaaGreatDoorNName
import Derived.Test.YteencdgaldhanaaGreatDoorMSpan
namespace Go.Proofs.YteencdgaldhanaaGreatDoor
open Go.ChangeShapes Go.WideShapes Go.ChangeAt Go.RowKit

theorem list_Name {α : Type} {cs : List α} (h : cs.length = 5) : ∃ c0 c1 c2 c3 c4, cs = [c0, c1, c2, c3, c4] := by
  match cs, h with
  | [c0, c1, c2, c3, c4], _ => exact ⟨c0, c1, c2, c3, c4, rfl⟩
theorem open_cellsName {H : Type} {enc : TypeId × Value → H} {w : World} {spare : Nat → Bool} {held : Bool} {fuel : Nat} {cs : List Value} {x : DataW H × List MemPlace} (h : DataW.trod enc Tryz.prog w 0 spare held fuel 74 cs = some x) :
    ∃ y : NameV, cs = layName.cells y ∧ ok0Name y := by
  have hmx : maxLen = 9223372036854775807 := rfl
  obtain ⟨xs, n, _, _, hl, hlen, hf⟩ := DataW.trod_struct Tryz.underlying74 h
  have hC : Tryz.prog.cellsOf 74 = 5 := by kernel_rfl
  have hS : Tryz.prog.cellsOf 9 = 1 := by kernel_rfl
  have hI : Tryz.prog.cellsOf 2 = 1 := by kernel_rfl
  have hP : Tryz.prog.cellsOf 72 = 2 := by kernel_rfl
  rw [hC] at hl
  obtain ⟨c0, c1, c2, c3, c4, rfl⟩ := list_Name hl
  have ex : ∀ i, i < 4 → ∃ y, xs[i]? = some y := fun i hi => ⟨_, List.getElem?_eq_getElem (Nat.lt_of_lt_of_eq hi (hlen.trans rfl).symm)⟩
  obtain ⟨y0, hy0⟩ := ex 0 (by decide)
  have t0 : DataW.trod enc Tryz.prog w 0 spare held n 9 (List.take (Tryz.prog.cellsOf 9) (List.drop 0 [c0, c1, c2, c3, c4])) = some y0 := (hf 0 _ rfl).trans hy0
  simp only [hS, List.drop_zero, List.take_succ_cons, List.take_zero] at t0
  obtain ⟨y1, hy1⟩ := ex 1 (by decide)
  have t1 : DataW.trod enc Tryz.prog w 0 spare held n 9 (List.take (Tryz.prog.cellsOf 9) (List.drop 1 [c0, c1, c2, c3, c4])) = some y1 := (hf 1 _ rfl).trans hy1
  simp only [hS, List.drop_succ_cons, List.drop_zero, List.take_succ_cons, List.take_zero] at t1
  obtain ⟨y2, hy2⟩ := ex 2 (by decide)
  have t2 : DataW.trod enc Tryz.prog w 0 spare held n 2 (List.take (Tryz.prog.cellsOf 2) (List.drop 2 [c0, c1, c2, c3, c4])) = some y2 := (hf 2 _ rfl).trans hy2
  simp only [hI, List.drop_succ_cons, List.drop_zero, List.take_succ_cons, List.take_zero] at t2
  obtain ⟨y3, hy3⟩ := ex 3 (by decide)
  have t3 : DataW.trod enc Tryz.prog w 0 spare held n 72 (List.take (Tryz.prog.cellsOf 72) (List.drop 3 [c0, c1, c2, c3, c4])) = some y3 := (hf 3 _ rfl).trans hy3
  simp only [hP, List.drop_succ_cons, List.drop_zero, List.take_succ_cons, List.take_zero] at t3
  obtain ⟨v0, hv0, _, hz0⟩ := DataW.trod_string Tryz.underlying9 t0
  obtain rfl := List.singleton_inj.1 hv0
  obtain ⟨v1, hv1, _, hz1⟩ := DataW.trod_string Tryz.underlying9 t1
  obtain rfl := List.singleton_inj.1 hv1
  obtain ⟨v2, hv2, _, _⟩ := DataW.trod_int Tryz.underlying2 t2
  obtain rfl := List.singleton_inj.1 hv2
  obtain ⟨v3, v4, hv3⟩ := open_cellsSpan t3
  simp only [List.cons.injEq, and_true] at hv3
  obtain ⟨rfl, rfl⟩ := hv3
  exact ⟨⟨v0, v1, v2, v3, v4⟩, rfl, ⟨by have := hz0; show v0.size ≤ _; omega, by have := hz1; show v1.size ≤ _; omega⟩⟩
set_option maxRecDepth 100000 in
theorem open_valName {H : Type} {enc : TypeId × Value → H} {w : World} {spare : Nat → Bool} {held : Bool} {r : Reach} {b0 : Nat} {v : Value} {d : DataW H} {p : List MemPlace} (hv : Value.okWide Tryz.prog w r b0 74 v) (h : DataW.Trod enc Tryz.prog w 0 spare held 74 v d p) :
    ∃ y : NameV, v = valName y ∧ ok0Name y := by
  have hk := okWide_struct Tryz.underlying74 hv
  obtain ⟨cs, hcs, _⟩ := hk
  subst hcs
  obtain ⟨fuel, hf⟩ := h
  obtain ⟨y, hy, ho⟩ := open_cellsName hf
  refine ⟨y, ?_, ho⟩
  have : cs.toList = layName.cells y := by simpa [Value.cells] using hy
  rw [valName]
  exact congrArg Value.agg (Array.toList_inj.1 (by rw [this]; rfl))
theorem open_inName {H : Type} {enc : TypeId × Value → H} {w : World} {spare : Nat → Bool} {held : Bool} {a : Option Addr} {n c : Nat} {d : DataW H} {p : List MemPlace} (h : DataW.Trod enc Tryz.prog w 0 spare held 22 (.slice a n c) d p) :
    ∃ xs, InName w a n xs ∧ n ≤ c := by
  have hC : Tryz.prog.cellsOf 74 = 5 := by kernel_rfl
  obtain ⟨fuel, hf⟩ := h
  rcases Go.Deep.open_slice Tryz.underlying22 hf with ⟨hcs, _⟩ | ⟨x, l, c', m, nn, D, Pl, hcs, _, hl, hm, hmm, _, hi⟩
  · simp [Value.cells] at hcs
    obtain ⟨rfl, rfl, rfl⟩ := hcs
    exact ⟨[], ⟨rfl, by omega, .inl rfl, by simp⟩, Nat.le_refl _⟩
  · simp [Value.cells] at hcs
    obtain ⟨rfl, rfl, rfl⟩ := hcs
    have hnm : n ≤ m := by rw [hmm]; split <;> omega
    have hmx : maxLen = 9223372036854775807 := rfl
    have each : ∀ i, ∃ y : NameV, i < n → (∀ (j : Nat) u, (layName.cells y)[j]? = some u → w.cell? (x.add (i * 5 + j)) = some u) ∧ ok0Name y := by
      intro i
      by_cases hin : i < n
      · obtain ⟨cs', hc, ht'⟩ := hi i (by omega)
        rw [hC] at hc
        obtain ⟨_, hcl, hat⟩ := World.cells?_some hc
        obtain ⟨y, rfl, ho⟩ := open_cellsName ht'
        refine ⟨y, fun _ => ⟨fun j u hu => ?_, ho⟩⟩
        have hj := (List.getElem?_eq_some_iff.1 hu).1
        rw [← Go.Deep.add_add, hat j (by rw [hcl] at hj; exact hj), hu]
      · exact ⟨⟨ByteArray.empty, ByteArray.empty, 0, 0, 0⟩, fun h => absurd h hin⟩
    refine ⟨(List.range n).map fun i => Classical.choose (each i), ⟨by simp, by omega, rd_of_cells fun i u hu => ?_, fun s hs => ?_⟩, hl⟩
    · have hi := (List.getElem?_eq_some_iff.1 hu).1
      rw [flat_len] at hi
      simp only [List.length_map, List.length_range, layName] at hi
      have hd : i = i / 5 * 5 + i % 5 := by omega
      have hk : i / 5 < n := by omega
      rw [hd] at hu ⊢
      rw [show ((i / 5 * 5 + i % 5 : Nat)) = i / 5 * layName.sz + i % 5 from rfl, flat_get layName _ (i / 5) (i % 5) (Classical.choose (each (i / 5))) (by simp [hk]) (show i % 5 < 5 by omega)] at hu
      exact (Classical.choose_spec (each (i / 5)) hk).1 _ _ hu
    · simp only [List.mem_map, List.mem_range] at hs
      obtain ⟨i, hin, rfl⟩ := hs
      exact (Classical.choose_spec (each i) hin).2

end Go.Proofs.YteencdgaldhanaaGreatDoor

/-
  Own slices of elements of many cells: a cell written, a row of cells written, the slice cut.
-/
import Derived.Test.YtfglmoedicijkaaGreatDoorH
import Derived.Deep.Upon
import Derived.Deep.RegionLaw
import Derived.Lib.SliceRun
namespace Go.Proofs.YtfglmoedicijkaaGreatDoor
open Go.RowKit

theorem flat_set {α : Type} (L : Lay α) {x x' : α} {u : Value} {j : Nat} (hj : j < L.sz) (hx : L.cells x' = (L.cells x).set j u) : ∀ (xs : List α) (k : Nat), xs[k]? = some x → (xs.flatMap L.cells).set (k * L.sz + j) u = (xs.set k x').flatMap L.cells
  | [], k, h => by simp at h
  | y :: ys, 0, h => by
    obtain rfl : y = x := by simpa using h
    rw [List.flatMap_cons, List.set_cons_zero, List.flatMap_cons, hx, Nat.zero_mul, Nat.zero_add, List.set_append_left _ _ (by rw [L.len]; exact hj)]
  | y :: ys, k + 1, h => by
    rw [List.flatMap_cons, List.set_cons_succ, List.flatMap_cons, List.set_append_right _ _ (by rw [L.len, Nat.succ_mul]; omega), L.len]
    rw [show (k + 1) * L.sz + j - L.sz = k * L.sz + j by rw [Nat.succ_mul]; omega, flat_set L hj hx ys k (by simpa using h)]
/-- One cell of one element is written. -/
theorem OwnG.setAt {α : Type} {L : Lay α} {e : TypeId} {w : World} {B g n c : Nat} {xs : List α} (h : OwnG L e w B (some ⟨g, 0, none⟩) n c xs) {k j : Nat} {x x' : α} {u : Value} (hk : xs[k]? = some x) (hj : j < L.sz) (hx : L.cells x' = (L.cells x).set j u) :
    OwnG L e (w.setCell ⟨g, k * L.sz + j, none⟩ u) B (some ⟨g, 0, none⟩) n c (xs.set k x') ∧ w.grownBy (w.setCell ⟨g, k * L.sz + j, none⟩ u) (some g) := by
  obtain ⟨h1, h2⟩ := h.1.stored (k * L.sz + j) u
  rw [flat_set L hj hx xs k hk] at h1
  exact ⟨⟨h1, h.2⟩, h2⟩
theorem grown_trans' {w w1 w2 : World} {r : Option Nat} (h : w.grownBy w1 r) (k : w1.grownBy w2 r) : w.grownBy w2 r :=
  ⟨k.os.trans h.os, k.tape.trans h.tape, k.output.trans h.output, Nat.le_trans h.size k.size, fun j hj hr => (k.block j (Nat.lt_of_lt_of_le hj h.size) hr).trans (h.block j hj hr)⟩
/-- A row of cells is written. -/
theorem own_setCells {B e sz g n c : Nat} : ∀ (vs : List Value) (off : Nat) (w : World) (xs : List Value), w.ownsRow B e sz (.slice (some ⟨g, 0, none⟩) n c) n xs → off + vs.length ≤ xs.length →
    (w.setCells g off vs).ownsRow B e sz (.slice (some ⟨g, 0, none⟩) n c) n (xs.take off ++ vs ++ xs.drop (off + vs.length)) ∧ w.grownBy (w.setCells g off vs) (some g)
  | [], off, w, xs, h, _ => by
    refine ⟨?_, World.grownBy.refl _ _⟩
    simpa [World.setCells] using h
  | v :: r, off, w, xs, h, hl => by
    obtain ⟨h1, h2⟩ := h.stored off v
    have hl' : off < xs.length := by simp at hl; omega
    obtain ⟨i1, i2⟩ := own_setCells r (off + 1) (w.setCell ⟨g, off, none⟩ v) (xs.set off v) h1 (by simp at hl ⊢; omega)
    refine ⟨?_, grown_trans' h2 i2⟩
    have e : (xs.set off v).take (off + 1) ++ r ++ (xs.set off v).drop (off + 1 + r.length) = xs.take off ++ v :: r ++ xs.drop (off + (r.length + 1)) := by
      rw [List.take_succ_eq_append_getElem (by simpa using hl'), List.getElem_set_self, List.take_set, List.set_eq_of_length_le (by simp; omega), List.drop_set, if_pos (by omega), show off + 1 + r.length = off + (r.length + 1) by omega]
      simp
    rw [e] at i1
    exact i1
/-- Cut to fewer elements. -/
theorem own_cut {w : World} {B e sz g n c m : Nat} {xs : List Value} (h : w.ownsRow B e sz (.slice (some ⟨g, 0, none⟩) n c) n xs) (hm : m ≤ n) : w.ownsRow B e sz (.slice (some ⟨g, 0, none⟩) m c) m (xs.take (m * sz)) := by
  have hmul : m * sz ≤ n * sz := Nat.mul_le_mul_right _ hm
  refine ⟨by rw [List.length_take, h.1]; omega, ?_⟩
  rcases h.2 with ⟨h', _⟩ | ⟨g', cap, cur, hv, hb, hg, h1, h2, h3, h4⟩
  · cases h'
  · cases hv
    refine .inr ⟨g, c, cur, rfl, hb, hg, Nat.le_trans hm h1, h2, h3, ?_⟩
    rw [← h4, List.take_take, Nat.min_eq_left hmul]
theorem OwnG.cut {α : Type} {L : Lay α} {e : TypeId} {w : World} {B g n c m : Nat} {xs : List α} (h : OwnG L e w B (some ⟨g, 0, none⟩) n c xs) (hm : m ≤ n) : OwnG L e w B (some ⟨g, 0, none⟩) m c (xs.take m) := by
  have hl := h.rd.len
  have h1 := own_cut h.1 hm
  have e2 : (xs.flatMap L.cells).take (m * L.sz) = (xs.take m).flatMap L.cells := by
    have e3 := List.take_append_drop m xs
    have e4 : xs.flatMap L.cells = (xs.take m).flatMap L.cells ++ (xs.drop m).flatMap L.cells := by rw [← List.flatMap_append, e3]
    rw [e4, List.take_append_of_le_length (by rw [flat_len, List.length_take, Nat.min_eq_left (by omega)]; exact Nat.le_refl _), List.take_of_length_le (by rw [flat_len, List.length_take, Nat.min_eq_left (by omega)]; exact Nat.le_refl _)]
  rw [e2] at h1
  exact ⟨h1, Nat.le_trans hm h.2⟩
/-- 'clear' of one element of many cells. -/
theorem run_clear_one {P : Program} (w : World) (t e ty : TypeId) (z : Value) (ht : P.underlying t = some (.slice e)) (hv : ∀ w, (zeroValue e).run P w = .ok z w) (h1 : ∀ u ∈ z.cells.toList, u.oneCell' = true) (b o c : Nat)
    (hc : ∀ j, j < z.cells.size → (w.cell? ⟨b, o + j, none⟩).isSome = true) (hf : ∀ j, j < z.cells.size → w.frozen? ⟨b, o + j, none⟩ = false) :
    (Builtin.clear_ #[t] ty #[.slice (some ⟨b, o, none⟩) 1 c]).run P w = .ok (.tuple #[]) (w.setCells b o z.cells.toList) := by
  have hzc : (Builtin.zeroCells z.cells 1).toList = z.cells.toList := by
    apply List.ext_getElem
    · simp [Builtin.zeroCells]
    · intro i h1 h2
      simp only [Array.length_toList] at h2
      simp [Builtin.zeroCells, Nat.mod_eq_of_lt h2, getElem!_pos, h2]
  have hst := run_storeCells_cells (P := P) b o z.cells.toList 0 w (by simpa using hc) (by simpa using hf) h1
  simp only [Nat.add_zero] at hst
  simp [Builtin.clear_, run_underlying ht, hv, hzc, hst]
end Go.Proofs.YtfglmoedicijkaaGreatDoor

/-
  sorted of the program: the library's sort, then each once.
-/
import Derived.Test.YtfglmoedicijkaaGreatDoorOR
import Derived.Test.YtfglmoedicijkaaGreatDoorShelf
namespace Go.Proofs.YtfglmoedicijkaaGreatDoor
open Go.RowKit Go.Sort

theorem Ext.below {w0 w w' : World} {B : Nat} (h : Ext w0 w) (hb : Below B w w') (hB : w0.heap.size ≤ B) : Ext w0 w' := Below.trans h (Below.mono hb hB)

theorem sorted_none (w : World) :
    Calls Tryz.prog 59 #[.slice none 0 0] w fun e w' => e = .returned (.slice none 0 0) ∧ w' = w := by
  go_enter Tryz.func59, Tryz.ntmps59
  go_wp2_with fail
  refine (Tryz.slices_Sort_string_none none 0 _).mono ?_
  rintro e w1 ⟨rfl, rfl⟩
  go_wp2_with fail
  refine (Tryz.slices_Compact_string_empty none 0 _).mono ?_
  rintro e w2 ⟨rfl, rfl⟩
  go_wp2
  go_ret
  exact ⟨rfl, rfl⟩

theorem sorted_some (g n c B : Nat) (xs : List ByteArray) (w : World) (ho : OwnS w B (some ⟨g, 0, none⟩) n c xs) (hn : n ≤ 1048577) :
    Calls Tryz.prog 59 #[.slice (some ⟨g, 0, none⟩) n c] w fun e w' => ∃ m, e = .returned (.slice (some ⟨g, 0, none⟩) m c) ∧ OwnS w' B (some ⟨g, 0, none⟩) m c (sortU xs) ∧ Below B w w' := by
  have hl := ho.rd.len
  have hcap := ho.cap
  have hxs : w.ownsRow B 9 1 (.slice (some ⟨g, 0, none⟩) n c) n ((xs.map (·.data.toList)).map encStr) := by
    rw [Lib.map_encStr]
    have := ho.1.1
    have e : xs.flatMap layS.cells = xs.map Value.string := by
      clear this ho hl hcap
      induction xs with
      | nil => rfl
      | cons x xs ih => rw [List.flatMap_cons, ih]; rfl
    rwa [e] at this
  obtain ⟨g', cap, hv, hBg, hg, _, hcm, hlen, hH⟩ := Lib.holds_of_ownsRow hxs (by simp)
  obtain ⟨rfl, rfl⟩ : g = g' ∧ c = cap := by cases hv; exact ⟨rfl, rfl⟩
  have hts : ((xs.map (·.data.toList)).mergeSort fun x y => decide (x ≤ y)).length = n := by rw [List.length_mergeSort]; exact hlen
  have hsorted : ∀ (k : Nat) (os : Array Obj), (grow (putRow encStr (Sort.ahead w k) g 0 ((xs.map (·.data.toList)).mergeSort fun x y => decide (x ≤ y)).toArray) os).ownsRow B 9 1 (.slice (some ⟨g, 0, none⟩) n c) n (((xs.map (·.data.toList)).mergeSort fun x y => decide (x ≤ y)).map encStr) ∧ Below B w (grow (putRow encStr (Sort.ahead w k) g 0 ((xs.map (·.data.toList)).mergeSort fun x y => decide (x ≤ y)).toArray) os) := by
    intro k os
    rcases hxs.2 with ⟨e0, _⟩ | ⟨g1, cap1, cur, e0, hb1, hg1, hn1, hm1, hs1, ht1⟩
    · cases e0
    · cases e0
      refine ⟨?_, Below.grown (Below.refl _ _) (grownBy_sorted _) (by omega) (by intro k e; cases e; exact hb1)⟩
      have := ownsRow_sorted (os := os) (n := k) (ss := xs.map (·.data.toList)) (hts.trans hlen.symm) hb1 hg1 (by omega) hm1 hs1
      rwa [hlen] at this
  have hkeys := sortU_keys xs
  have hS := Tryz.slices_Sort_string g 0 c (xs.map (·.data.toList)) w hH hg (by omega)
  rw [hlen] at hS
  generalize ((xs.map (·.data.toList)).mergeSort fun x y => decide (x ≤ y)) = ts at *
  go_enter Tryz.func59, Tryz.ntmps59
  go_wp2_with fail
  refine hS.mono ?_
  rintro e w1 ⟨rfl, k, os, rfl⟩
  obtain ⟨o1, b1⟩ := hsorted k os
  generalize grow (putRow encStr (Sort.ahead w k) g 0 ts.toArray) os = w1 at *
  obtain ⟨g1, cap1, hv1, _, hg1, _, _, hlen1, hH1⟩ := Lib.holds_of_ownsRow o1 (by simp)
  obtain ⟨rfl, rfl⟩ : g = g1 ∧ c = cap1 := by cases hv1; exact ⟨rfl, rfl⟩
  have hC := Tryz.slices_Compact_string g 0 c ts w1 hH1 (by omega) (by omega)
  rw [hts, hkeys, List.length_map] at hC
  have hm := sortU_len xs
  go_wp2_with fail
  refine hC.mono ?_
  rintro e w2 ⟨rfl, q, rfl⟩
  have o2 := Lib.ownsRow_putRow (q := q) (k := (sortU xs).length) (ys := (sortU xs).map (fun s : ByteArray => s.data.toList) ++ List.replicate (n - (sortU xs).length) []) o1 (by simp; omega) (by omega)
  rw [List.take_left' (by simp), Lib.map_encStr] at o2
  have b2 := Lib.below_putRow (enc := encStr) (q := q) (d := ((sortU xs).map (fun s : ByteArray => s.data.toList) ++ List.replicate (n - (sortU xs).length) []).toArray) b1 hBg
  go_wp2
  go_ret
  refine ⟨_, rfl, ⟨⟨?_, by omega⟩, fun s hs => ho.2 s (sortU_mem.1 hs)⟩, b2⟩
  have e : (sortU xs).flatMap layS.cells = (sortU xs).map Value.string := by
    clear o2 b2 hC hm hkeys
    induction sortU xs with
    | nil => rfl
    | cons x xs ih => rw [List.flatMap_cons, ih]; rfl
  rw [e]
  exact o2

theorem own_none {α : Type} {L : Lay α} {e : TypeId} {w : World} {B n c : Nat} {xs : List α} (h : OwnG L e w B none n c xs) : n = 0 ∧ c = 0 ∧ xs = [] := by
  obtain ⟨rfl, rfl⟩ := h.rd.isNone
  rcases h.1.2 with ⟨h1, _⟩ | ⟨g, cap, cur, hv, _⟩
  · cases h1; exact ⟨rfl, rfl, rfl⟩
  · cases hv
theorem sorted_any (a : Option Addr) (n c B : Nat) (xs : List ByteArray) (w : World) (ho : OwnS w B a n c xs) (hn : n ≤ 1048577) :
    Calls Tryz.prog 59 #[.slice a n c] w fun e w' => ∃ m, e = .returned (.slice a m c) ∧ m ≤ n ∧ OwnS w' B a m c (sortU xs) ∧ Below B w w' := by
  rcases own_addr ho.1.1 with rfl | ⟨g, rfl⟩
  · obtain ⟨rfl, rfl, rfl⟩ := own_none ho.1
    exact (sorted_none w).mono fun e w' ⟨h1, h2⟩ => ⟨0, h1, Nat.le_refl _, by rw [h2]; exact ho, by rw [h2]; exact Below.refl _ _⟩
  · refine (sorted_some g n c B xs w ho hn).mono fun e w' ⟨m, h1, h2, h3⟩ => ⟨m, h1, ?_, h2, h3⟩
    have e1 := h2.rd.len
    have e2 := ho.rd.len
    have := sortU_len xs
    omega

end Go.Proofs.YtfglmoedicijkaaGreatDoor

/-
  Plain laws on trees of classes that the two statements on trees and classes rest on. No program in sight.
-/
import Derived.Test.YtjkffefenffffaaQ
namespace Go.Proofs.Ytjkffefenffffaa

theorem nth_set (zs : List Int) (i j : Nat) (y : Int) (hi : i < zs.length) : nth (zs.set i y) j = if i = j then y else nth zs j := by
  by_cases h : i = j
  · subst h
    rw [if_pos rfl, nth_eq (by simpa using hi)]
    simp
  · rw [if_neg h]
    simp [nth, h]
theorem nth_app (zs : List Int) (y : Int) (j : Nat) : nth (zs ++ [y]) j = if j = zs.length then y else nth zs j := by
  by_cases h : j < zs.length
  · rw [if_neg (by omega)]
    simp [nth, List.getElem?_append_left h]
  · by_cases h2 : j = zs.length
    · subst h2
      simp [nth]
    · rw [if_neg h2]
      simp [nth, List.getElem?_append_right (show zs.length ≤ j by omega), List.getElem?_eq_none (show zs.length ≤ j by omega), List.getElem?_eq_none (show [y].length ≤ j - zs.length by simp; omega)]

theorem tree_set {zs : List Int} (h : Tree zs) {i : Nat} {y : Int} (hi : i < zs.length) (hy : 0 ≤ y) (hyi : y < i) : Tree (zs.set i y) where
  one := by simpa using h.one
  le := by simpa using h.le
  root := by rw [nth_set _ _ _ _ hi, if_neg (by omega)]; exact h.root
  lo := fun k h0 hk => by
    rw [nth_set _ _ _ _ hi]
    split
    · exact hy
    · exact h.lo k h0 (by simpa using hk)
  hi := fun k h0 hk => by
    rw [nth_set _ _ _ _ hi]
    split
    · rename_i e; subst e; exact hyi
    · exact h.hi k h0 (by simpa using hk)
theorem tree_app {zs : List Int} (h : Tree zs) {y : Int} (hy : 0 ≤ y) (hyn : y < zs.length) (hn : zs.length < 20) : Tree (zs ++ [y]) where
  one := by simp
  le := by simp; omega
  root := by rw [nth_app, if_neg (by have := h.one; omega)]; exact h.root
  lo := fun k h0 hk => by
    rw [nth_app]
    split
    · exact hy
    · exact h.lo k h0 (by simp at hk; omega)
  hi := fun k h0 hk => by
    rw [nth_app]
    split
    · rename_i e; rw [e]; exact hyn
    · exact h.hi k h0 (by simp at hk; omega)

theorem codeL_zero {zs l : List Int} (h : Tree zs) (hl : ∀ x ∈ l, 0 ≤ x ∧ x < zs.length) : codeL zs l = 0 := by
  refine codeL_ok rfl h.treeB ?_
  rw [allIn, List.all_eq_true]
  intro x hx
  have := hl x hx
  exact inB_yes this.1 (by omega)

theorem moveC_zero {zs : List Int} {x y : Int} (h : moveC zs x y = 0) : codeL zs [x, y] = 0 ∧ y < x := by
  unfold moveC at h
  split at h
  · rename_i h0
    split at h
    · simp at h
    · exact ⟨h0, by omega⟩
  · rename_i h0; exact absurd h h0
theorem addC_zero {zs : List Int} {x : Int} (h : addC zs x = 0) : codeL zs [x] = 0 ∧ zs.length ≠ 20 := by
  unfold addC at h
  split at h
  · rename_i h0
    split at h
    · simp at h
    · exact ⟨h0, by assumption⟩
  · rename_i h0; exact absurd h h0

/-- A moved class is a kind of its new parent, and the list is a tree still. -/
theorem moved_law {zs : List Int} {x y : Int} (h : moveC zs x y = 0) : Tree (moveR zs x y) ∧ codeL (moveR zs x y) [x, y] = 0 ∧ isKindR (moveR zs x y) x y = true := by
  obtain ⟨h0, hyx⟩ := moveC_zero h
  have ht := codeL_tree h0
  have hx := codeL_in h0 x (by simp)
  have hy := codeL_in h0 y (by simp)
  obtain ⟨i, rfl⟩ := Int.eq_ofNat_of_zero_le hx.1
  have hi : i < zs.length := by omega
  have e : moveR zs i y = zs.set i y := by rw [moveR, if_pos h]; rfl
  have ht2 := tree_set ht hi hy.1 hyx
  rw [e]
  have hc : codeL (zs.set i y) [(i : Int), y] = 0 := codeL_zero ht2 (by simp; omega)
  refine ⟨ht2, hc, ?_⟩
  rw [isKindR, if_pos hc, hasI_iff, kinds_step ht2 (by simpa using hi)]
  obtain ⟨j, rfl⟩ := Int.eq_ofNat_of_zero_le hy.1
  rw [nth_set _ _ _ _ hi, if_pos rfl, kinds_step ht2 (k := j) (by simp; omega)]
  simp
/-- An added class is a leaf, and the list is a tree still. -/
theorem added_law {zs : List Int} {x : Int} (h : addC zs x = 0) : Tree (addR zs x) ∧ codeL (addR zs x) [] = 0 ∧ hasI (leavesR (addR zs x)) zs.length = true := by
  obtain ⟨h0, hn⟩ := addC_zero h
  have ht := codeL_tree h0
  have hx := codeL_in h0 x (by simp)
  have e : addR zs x = zs ++ [x] := by rw [addR, if_pos h]
  have ht2 := tree_app ht hx.1 hx.2 (by have := ht.le; omega)
  rw [e]
  have hc : codeL (zs ++ [x]) [] = 0 := codeL_zero ht2 (by simp)
  refine ⟨ht2, hc, ?_⟩
  rw [leavesR, if_pos hc, hasI_iff, selN, List.mem_map]
  refine ⟨zs.length, ?_, rfl⟩
  rw [List.mem_filter]
  refine ⟨by simp, ?_⟩
  simp only [Bool.not_eq_true', hasI]
  rw [← Bool.not_eq_true, List.contains_iff_mem, List.mem_append]
  rintro (hm | hm)
  · obtain ⟨k, hk, e⟩ := List.getElem_of_mem hm
    have := (ht.bounds hk).2
    rw [nth_eq hk, e] at this
    omega
  · simp at hm
    omega

theorem subR_has {zs : List Int} {v : Int} (h : codeL zs [v] = 0) {i : Nat} (hi : i < zs.length) : codeL zs [(i : Int), v] = 0 ∧ hasI (subR zs v) i = isKindR zs i v := by
  have ht := codeL_tree h
  have hv := codeL_in h v (by simp)
  have hc : codeL zs [(i : Int), v] = 0 := codeL_zero ht (by simp; omega)
  refine ⟨hc, ?_⟩
  rw [isKindR, if_pos hc, subR, if_pos h, Bool.eq_iff_iff, hasI_iff, selN, List.mem_map]
  constructor
  · rintro ⟨k, hk, e⟩
    rw [List.mem_filter] at hk
    have : k = i := by omega
    subst this
    exact hk.2
  · intro hk
    exact ⟨i, by rw [List.mem_filter]; exact ⟨by simpa using hi, hk⟩, rfl⟩

theorem com_self {zs : List Int} (h : Tree zs) {a c : Nat} (ha : a < zs.length) (hc : c < zs.length) (hm : (c : Int) ∈ kinds zs a) : com zs a c = c := by
  have h1 := com_spec h hc a ha
  have h2 := h1.2.2 c hm (by rw [kinds_step h hc]; simp)
  have h3 := kinds_le h c hc _ h1.2.1
  omega

/-- The common kind is the same in both orders; the distance is the sum of those from it. -/
theorem common_law {zs : List Int} {x y : Int} (h : codeL zs [x, y] = 0) :
    codeL zs [y, x] = 0 ∧ comR zs y x = comR zs x y ∧ codeL zs [x, comR zs x y] = 0 ∧ codeL zs [comR zs x y, y] = 0 ∧ distR zs x (comR zs x y) + distR zs (comR zs x y) y = distR zs x y ∧
    (0 ≤ distR zs x (comR zs x y) ∧ distR zs x (comR zs x y) ≤ 100) ∧ (0 ≤ distR zs (comR zs x y) y ∧ distR zs (comR zs x y) y ≤ 100) := by
  have ht := codeL_tree h
  have hx := codeL_in h x (by simp)
  have hy := codeL_in h y (by simp)
  obtain ⟨i, rfl⟩ := Int.eq_ofNat_of_zero_le hx.1
  obtain ⟨j, rfl⟩ := Int.eq_ofNat_of_zero_le hy.1
  have hi : i < zs.length := by omega
  have hj : j < zs.length := by omega
  have h2 : codeL zs [(j : Int), (i : Int)] = 0 := codeL_zero ht (by simp; omega)
  obtain ⟨c, hc, hci⟩ := com_bd ht hi hj
  have hs := com_spec ht hj i hi
  rw [hc] at hs
  have e : comR zs i j = c := by rw [comR, if_pos h, hc]
  rw [e]
  have h3 : codeL zs [(i : Int), (c : Int)] = 0 := codeL_zero ht (by simp; omega)
  have h4 : codeL zs [(c : Int), (j : Int)] = 0 := codeL_zero ht (by simp; omega)
  have e1 : com zs i c = c := com_self ht hi (by omega) hs.1
  have e2 : com zs c j = c := by rw [com_comm ht (by omega) hj]; exact com_self ht hj (by omega) hs.2.1
  have lc := kinds_len ht c (by omega)
  have li := kinds_len ht i hi
  have lj := kinds_len ht j hj
  have mono : ∀ (k : Nat), k < zs.length → (c : Int) ∈ kinds zs k → (kinds zs c).length ≤ (kinds zs k).length := by
    intro k
    induction k using Nat.strongRecOn with
    | _ k ih =>
      intro hk hm
      rw [kinds_step ht hk] at hm ⊢
      rcases List.mem_cons.1 hm with e | hm
      · have : c = k := by omega
        subst this
        rw [← kinds_step ht hk]
        exact Nat.le_refl _
      · by_cases hn : nth zs k < 0
        · rw [kinds_neg _ hn] at hm; simp at hm
        · obtain ⟨q, hq⟩ := Int.eq_ofNat_of_zero_le (Int.not_lt.1 hn)
          have hb := ht.bounds hk
          rw [hq] at hm ⊢
          have := ih q (by omega) (by omega) hm
          rw [List.length_cons]
          omega
  have m1 := mono i hi hs.1
  have m2 := mono j hj hs.2.1
  refine ⟨h2, by rw [comR, if_pos h2, com_comm ht hj hi, hc], h3, h4, ?_, ?_, ?_⟩
  · rw [distR, if_pos h3, distR, if_pos h4, distR, if_pos h, e1, e2, hc]
    omega
  · rw [distR, if_pos h3, e1]
    have := ht.le
    omega
  · rw [distR, if_pos h4, e2]
    have := ht.le
    omega

end Go.Proofs.Ytjkffefenffffaa

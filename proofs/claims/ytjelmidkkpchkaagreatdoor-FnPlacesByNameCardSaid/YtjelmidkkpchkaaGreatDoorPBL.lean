/-
  The law of places by name (plain): a place with a name exists in the year of the name's use; the best name of a place is one of its names.
-/
import Derived.Test.YtjelmidkkpchkaaGreatDoorNM
import Derived.Test.YtjelmidkkpchkaaGreatDoorNO
import Derived.Test.YtjelmidkkpchkaaGreatDoorKO
import Derived.Test.YtjelmidkkpchkaaGreatDoorFQ
import Derived.Test.YtjelmidkkpchkaaGreatDoorM3
namespace Go.Proofs.YtjelmidkkpchkaaGreatDoor
open Go.RowKit

theorem bestN_used (xs : List NameV) (l : ByteArray) (y : Int) : ∀ k, k ≤ xs.length → 0 ≤ bestN xs l y k → ∃ i, i < xs.length ∧ bestN xs l y k = (i : Nat) ∧ hasY xs y i = true := by
  intro k
  induction k with
  | zero => intro _ h; simp [bestN] at h
  | succ k ih =>
    intro hk h
    rw [bestN_step] at h ⊢
    cases hy : hasY xs y k
    · rw [hy] at h
      rw [if_neg (by decide)] at h ⊢
      exact ih (by omega) h
    · rw [hy] at h
      rw [if_pos rfl] at h ⊢
      cases hb : betterB xs l (bestN xs l y k) k
      · rw [bestS, hb, if_neg (by decide)] at h ⊢
        exact ih (by omega) h
      · rw [bestS, hb, if_pos rfl] at h ⊢
        exact ⟨k, by omega, rfl, hy⟩
theorem bestR_used {xs : List NameV} {ls : List ByteArray} {y : Int} (h : 0 ≤ bestR xs ls y) : ∃ i, i < xs.length ∧ bestR xs ls y = (i : Nat) ∧ hasY xs y i = true := by
  rw [bestR] at h ⊢
  by_cases hi : bestI xs ls y < 0
  · rw [if_pos hi] at h; exact absurd h (by decide)
  · rw [if_neg hi] at h ⊢
    exact bestN_used xs _ y xs.length (Nat.le_refl _) h
theorem place_names {x : PlaceV} (h : placeB x = true) : wordB x.code = true ∧ namesB x.names = true ∧ ∀ n ∈ x.names, x.from_ ≤ n.from_ ∧ n.to_ ≤ x.to_ := by
  rw [placeB, Bool.and_eq_true, Bool.and_eq_true, Bool.and_eq_true, Bool.and_eq_true] at h
  refine ⟨h.1, h.2.2.2.1, fun n hn => ?_⟩
  have h2 := h.2.2.2.2
  rw [insB, Bool.not_eq_true'] at h2
  obtain ⟨j, hj, rfl⟩ := List.getElem_of_mem hn
  have := (anyP_not h2).2 j hj
  rw [outP, Bool.not_eq_false', Bool.and_eq_true, decide_eq_true_eq, decide_eq_true_eq] at this
  exact this
theorem namesB_all {xs : List NameV} (h : namesB xs = true) : ∀ x ∈ xs, nameB x = true := fun x hx => by
  rw [namesB, Bool.and_eq_true, firstsN, List.all_eq_true] at h
  obtain ⟨j, hj, rfl⟩ := List.getElem_of_mem hx
  have := h.1 j (List.mem_range.2 hj)
  rw [Bool.and_eq_true, nthName_eq hj] at this
  exact this.1
theorem pick_sub {p q : PlaceV → Bool} {xs : List PlaceV} (h : ∀ x ∈ xs, p x = true → q x = true) {z : ByteArray} (hz : z ∈ pickL p PlaceV.code xs xs.length) : z ∈ pickL q PlaceV.code xs xs.length := by
  simp only [pickL, List.take_length, List.mem_map, List.mem_filter] at hz ⊢
  obtain ⟨x, ⟨hx, hp⟩, e⟩ := hz
  exact ⟨x, ⟨hx, h x hx hp⟩, e⟩
/-- A place with a name exists in the year of its use. -/
theorem named_in {xs : List PlaceV} {s : ByteArray} {y : Int} (h : codeP xs (phraseB s) y = 0) {k : Nat} (hk : k < (nmL xs s y).length) : codeP xs true y = 0 ∧ hasT (inL xs y) (nthS (nmL xs s y) k) = true := by
  obtain ⟨h1, h2, h3⟩ := codeP_zero h
  have hc := codeP_ok h1 rfl h3
  refine ⟨hc, hasT_mem.2 ?_⟩
  have hz := nthS_mem hk
  rw [inL, if_pos hc]
  have e : nmL xs s y = pickL (namedP s y) PlaceV.code xs xs.length := if_pos h
  rw [e] at hz ⊢
  refine pick_sub (fun x hx hp => ?_) hz
  obtain ⟨j, hj, rfl⟩ := List.getElem_of_mem hx
  have hpl := reg_place h1 hj
  rw [nthPlace_eq hj] at hpl
  obtain ⟨q, hq, _, hqp⟩ := anyP_of hp
  rw [namedX, Bool.and_eq_true, inB_iff] at hqp
  have := (place_names hpl).2.2 _ (List.getElem_mem hq)
  exact inB_yes (by omega) (by omega)
/-- A place of a kind exists in the year. -/
theorem kind_in {xs : List PlaceV} {zs : List Int} {cl y : Int} (h : okC xs zs cl y = 0) {k : Nat} (hk : k < (okL xs zs cl y).length) : codeP xs true y = 0 ∧ hasT (inL xs y) (nthS (okL xs zs cl y) k) = true := by
  have h0 : codeP xs (treeB zs) y = 0 := by
    apply Classical.byContradiction
    intro hn
    rw [(ok_code hn).1] at h
    exact hn h
  obtain ⟨h1, h2, h3⟩ := codeP_zero h0
  have hc := codeP_ok h1 rfl h3
  refine ⟨hc, hasT_mem.2 ?_⟩
  have hz := nthS_mem hk
  have e : okL xs zs cl y = pickL (ofKind zs y cl) PlaceV.code xs xs.length := if_pos h
  rw [e] at hz ⊢
  rw [inL, if_pos hc]
  refine pick_sub (fun x hx hp => ?_) hz
  rw [ofKind, Bool.and_eq_true] at hp
  exact hp.1
/-- The best name of a place finds it. -/
theorem name_in {xs : List PlaceV} {s : ByteArray} {ls : List ByteArray} {y : Int} (h : noC xs s ls y = 0) (hne : noV xs s ls y ≠ s) : codeP xs (phraseB (noV xs s ls y)) y = 0 ∧ hasT (nmL xs (noV xs s ls y) y) s = true := by
  have h0 : codeP xs (wordB s && langsB ls) y = 0 := by
    apply Classical.byContradiction
    intro hn
    rw [noC, if_neg hn] at h
    exact hn h
  have hf : fpB xs s = true := by
    cases hf : fpB xs s
    · rw [noC, if_pos h0, hf] at h; exact absurd h (by decide)
    · rfl
  obtain ⟨h1, h2, h3⟩ := codeP_zero h0
  have ev : noV xs s ls y = noT (nthPlace xs (fpI xs s)) ls y := if_pos ⟨h0, hf⟩
  obtain ⟨hlt, hcode⟩ := fpB_at hf
  have hpl := reg_place h1 hlt
  have hmem := nthPlace_mem hlt
  rw [ev] at hne ⊢
  generalize nthPlace xs (fpI xs s) = x at hcode hpl hmem hne ⊢
  have hb : ¬ bestR x.names ls y < 0 := fun hb => hne ((noT_code hb).trans hcode)
  obtain ⟨i, hi, e, hy⟩ := bestR_used (by omega : 0 ≤ bestR x.names ls y)
  rw [noT_name e]
  have hni := nthName_eq hi
  have hnm := namesB_all (place_names hpl).2.1 _ (List.getElem_mem hi)
  have hph : phraseB (nthName x.names i).text = true := by
    rw [nameB, Bool.and_eq_true] at hnm
    rw [hni]; exact hnm.1
  have hc : codeP xs (phraseB (nthName x.names i).text) y = 0 := codeP_ok h1 hph h3
  refine ⟨hc, hasT_mem.2 ?_⟩
  rw [nmL, if_pos hc]
  simp only [pickL, List.take_length, List.mem_map, List.mem_filter]
  refine ⟨x, ⟨hmem, anyP_at hi ?_⟩, hcode⟩
  rw [namedX, Bool.and_eq_true, decide_eq_true_eq, hni]
  rw [hasY, hni] at hy
  exact ⟨rfl, hy⟩
end Go.Proofs.YtjelmidkkpchkaaGreatDoor

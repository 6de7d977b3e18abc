/-
  The laws of forms (plain): a word is a form of each of its bases; it has cases where it is a form.
-/
import Derived.Test.YtfglmoedicijkaaGreatDoorCS
import Derived.Test.YtfglmoedicijkaaGreatDoorFO
namespace Go.Proofs.YtfglmoedicijkaaGreatDoor

theorem suf_iff {s p : ByteArray} : sufB s p = true ↔ ∃ l, s.data.toList = l ++ p.data.toList := by
  rw [sufB, Lib.hasSuffix, List.isSuffixOf_iff_suffix]
  constructor
  · rintro ⟨l, h⟩; exact ⟨l, h.symm⟩
  · rintro ⟨l, h⟩; exact ⟨l, h.symm⟩
theorem chgV_of {s p e : ByteArray} {l : List UInt8} (h : s.data.toList = l ++ p.data.toList) : (chgV s p e).data.toList = l ++ e.data.toList := by
  have hs : Lib.hasSuffix s.data.toList p.data.toList = true := suf_iff.2 ⟨l, h⟩
  rw [chgV, ByteArray.data_append, Array.toList_append, Lib.trimSuffix, if_pos hs, h]
  simp
/-- Changed there and back. -/
theorem chg_back {s p e : ByteArray} (hw : wordB s = true) (h : chgB s p e = true) : chgB (chgV s p e) e p = true ∧ chgV (chgV s p e) e p = s := by
  rw [chgB, Bool.and_eq_true] at h
  obtain ⟨l, hl⟩ := suf_iff.1 h.1
  have h1 := chgV_of (e := e) hl
  have h2 : chgV (chgV s p e) e p = s := eqS.1 (by rw [chgV_of h1, hl])
  refine ⟨?_, h2⟩
  rw [chgB, h2, hw, suf_iff.2 ⟨l, h1⟩]; rfl
theorem tab_of {xs : List EndingV} {s : ByteArray} (h : tabC xs s = 0) : tableE xs = true ∧ wordB s = true := by
  rw [tabC] at h
  cases hb : tabB xs s
  · rw [hb] at h; exact absurd h (by decide)
  · rw [tabB, Bool.and_eq_true] at hb; exact hb
theorem pick_all {α β : Type} {p : α → Bool} {f : α → β} {xs : List α} {z : β} : z ∈ pickL p f xs xs.length ↔ ∃ x ∈ xs, p x = true ∧ f x = z := by
  simp only [pickL, List.take_length, List.mem_map, List.mem_filter, and_assoc]
theorem formL_mem {xs : List EndingV} {s z : ByteArray} (h : tabC xs s = 0) : z ∈ formL xs s ↔ ∃ x ∈ xs, formB s x = true ∧ formV s x = z := by
  obtain ⟨h1, h2⟩ := tab_of h
  rw [formL, if_pos (tab_good h1 h2), sortU_mem, pick_all]
theorem baseL_mem {xs : List EndingV} {s z : ByteArray} (h : tabC xs s = 0) : z ∈ baseL xs s ↔ ∃ x ∈ xs, baseB s x = true ∧ baseV s x = z := by
  obtain ⟨h1, h2⟩ := tab_of h
  rw [baseL, if_pos (tab_good h1 h2), sortU_mem, pick_all]
/-- A word is a form of each of its bases. -/
theorem form_of_base {xs : List EndingV} {s z : ByteArray} (h : tabC xs s = 0) (hz : z ∈ baseL xs s) : tabC xs z = 0 ∧ s ∈ formL xs z := by
  obtain ⟨h1, h2⟩ := tab_of h
  obtain ⟨x, hx, hb, rfl⟩ := (baseL_mem h).1 hz
  have hw : wordB (baseV s x) = true := by
    rw [baseB, chgB, Bool.and_eq_true] at hb; exact hb.2
  have hc := tabC_good h1 hw
  obtain ⟨k1, k2⟩ := chg_back h2 hb
  exact ⟨hc, (formL_mem hc).2 ⟨x, hx, k1, k2⟩⟩
theorem cs_of {xs : List EndingV} {b t : ByteArray} (h : csC xs b t = 0) : csB xs b t = true ∧ tabC xs b = 0 := by
  rw [csC] at h
  cases hb : csB xs b t
  · rw [hb] at h; exact absurd h (by decide)
  · have h2 := hb
    rw [csB, Bool.and_eq_true] at h2
    have h3 := h2.1
    rw [tabB, Bool.and_eq_true] at h3
    exact ⟨rfl, tabC_good h3.1 h2.2⟩
/-- A text is a form just where it has a case. -/
theorem cases_law {xs : List EndingV} {b t : ByteArray} (h : csC xs b t = 0) : tabC xs b = 0 ∧ (hasS (formL xs b) t = decide (0 < (csL xs b t).length)) := by
  obtain ⟨h1, h2⟩ := cs_of h
  refine ⟨h2, ?_⟩
  have hm : hasS (formL xs b) t = true ↔ t ∈ formL xs b := by
    constructor
    · intro hh
      obtain ⟨k, hk, he, _⟩ := hasS_of hh
      rw [← he]; exact nthS_mem hk
    · intro hh
      obtain ⟨k, hk, he⟩ := List.getElem_of_mem hh
      exact hasS_at hk (by rw [nthS_eq hk]; exact he)
  rw [Bool.eq_iff_iff, hm, decide_eq_true_eq, formL_mem h2, csL, if_pos h1]
  constructor
  · rintro ⟨x, hx, hp, hv⟩
    have : x.kase ∈ csR xs b t := by
      rw [csR, (sortI_spec _).2, pick_all]
      refine ⟨x, hx, ?_, rfl⟩
      rw [caseP]
      have : chgV b x.old x.new = t := hv
      rw [this, show chgB b x.old x.new = true from hp]
      simp
    exact List.length_pos_of_mem this
  · intro hl
    obtain ⟨z, hz⟩ := List.exists_mem_of_length_pos hl
    rw [csR, (sortI_spec _).2, pick_all] at hz
    obtain ⟨x, hx, hp, _⟩ := hz
    rw [caseP, Bool.and_eq_true] at hp
    refine ⟨x, hx, hp.1, ?_⟩
    have := hp.2
    rw [beq_iff_eq, ByteArray.toList_eq, ByteArray.toList_eq] at this
    exact eqS.1 this
end Go.Proofs.YtfglmoedicijkaaGreatDoor

/-
  Which name has a text (plain): at most one; it is found by cutting the text.
-/
import Derived.Test.YtajgjccnhippcaaGreatDoorDW2
namespace Go.Proofs.YtajgjccnhippcaaGreatDoor
open Go.RowKit

theorem word_noslash {s : ByteArray} (h : lowB s = true) : ∀ x ∈ s.data.toList, x ≠ 47 := fun x hx e => by
  rw [lowB, List.all_eq_true] at h
  have := h x hx
  rw [e] at this
  exact absurd this (by decide)
theorem phrase_noslash {s : ByteArray} (h : phraseB s = true) : ∀ x ∈ s.data.toList, x ≠ 47 := fun x hx => by
  rw [phraseB, Bool.and_eq_true, wordsB, List.all_eq_true] at h
  rcases split_mem (c := 32) hx with e | ⟨p, hp, hxp⟩
  · rw [e]; decide
  · have hw := h.2 ⟨p.toArray⟩ (List.mem_map_of_mem hp)
    rw [wordB, smallB, Bool.and_eq_true] at hw
    exact word_noslash hw.2 x (by simpa using hxp)
theorem span_noslash (a b : Int) : ∀ x ∈ spanT a b, x ≠ 47 := fun x hx => by
  rw [spanT, List.mem_append, List.mem_cons, List.mem_cons] at hx
  rcases hx with h | h | h | h
  · exact itoa_noslash a x h
  · rw [h]; decide
  · rw [h]; decide
  · exact itoa_noslash b x h
theorem nameB_all {x : NameV} (h : nameB x = true) : phraseB x.text = true ∧ langB x.lang = true ∧ (0 ≤ x.status ∧ x.status ≤ 2) ∧ spanB ⟨x.from_, x.to_⟩ = true := by
  rw [nameB] at h
  simp only [Bool.and_eq_true] at h
  exact ⟨h.1, h.2.1, inB_iff.1 h.2.2.1, h.2.2.2⟩
theorem name_split {x : NameV} (h : nameB x = true) : splitL 47 (nameT x) = [x.text.data.toList, x.lang.data.toList, Lib.itoa x.status, spanT x.from_ x.to_] := by
  obtain ⟨h1, h2, h3, h4⟩ := nameB_all h
  rw [langB, smallB, Bool.and_eq_true] at h2
  rw [nameT, splitL_cons (phrase_noslash h1), splitL_cons (word_noslash h2.2), splitL_cons (itoa_noslash _), splitL_miss (span_noslash _ _)]
theorem name_join {s : List UInt8} {x : NameV} (h : splitL 47 s = [x.text.data.toList, x.lang.data.toList, Lib.itoa x.status, spanT x.from_ x.to_]) : nameT x = s := by
  rw [← join_split 47 s, h]
  rfl
theorem spanB_wide {x : SpanV} (h : spanB x = true) : (-9223372036854775808 ≤ x.from_ ∧ x.from_ ≤ 9223372036854775807) ∧ (-9223372036854775808 ≤ x.to_ ∧ x.to_ ≤ 9223372036854775807) := by
  obtain ⟨h1, h2, _⟩ := spanB_iff.1 h
  omega
theorem name_inj {x y : NameV} (hx : nameB x = true) (hy : nameB y = true) (h : nameT x = nameT y) : x = y := by
  have h1 := name_split hx
  rw [h, name_split hy] at h1
  obtain ⟨_, _, b3, b4⟩ := nameB_all hx
  obtain ⟨_, _, c3, c4⟩ := nameB_all hy
  simp only [List.cons.injEq, and_true] at h1
  obtain ⟨e1, e2, e3, e4⟩ := h1
  have d1 := eqS.1 e1
  have d2 := eqS.1 e2
  have d3 := itoa_inj (by omega) (by omega) (by omega) (by omega) e3
  obtain ⟨s1, s2⟩ := spanB_wide b4
  obtain ⟨t1, t2⟩ := spanB_wide c4
  obtain ⟨d4, d5⟩ := span_inj t1 t2 s1 s2 e4
  cases x; cases y
  simp only at d1 d2 d3 d4 d5
  rw [d1, d2, d3, d4, d5]
/-- A name has this text. -/
def isText (s : ByteArray) (x : NameV) : Prop := nameB x = true ∧ nameT x = s.data.toList
theorem isText_one {s : ByteArray} {x y : NameV} (hx : isText s x) (hy : isText s y) : x = y := name_inj hx.1 hy.1 (hx.2.trans hy.2.symm)
def noName : NameV := ⟨⟨#[]⟩, ⟨#[]⟩, 0, 0, 0⟩
noncomputable def rdV (s : ByteArray) : NameV := @dite _ (∃ x, isText s x) (Classical.propDecidable _) (fun h => Classical.choose h) (fun _ => noName)
noncomputable def rdC (s : ByteArray) : Int := @ite _ (∃ x, isText s x) (Classical.propDecidable _) 0 6
theorem rd_yes {s : ByteArray} {x : NameV} (h : isText s x) : rdV s = x ∧ rdC s = 0 := by
  have he : ∃ x, isText s x := ⟨x, h⟩
  rw [rdV, rdC, dif_pos he, if_pos he]
  exact ⟨isText_one (Classical.choose_spec he) h, rfl⟩
theorem rd_no {s : ByteArray} (h : ∀ x, ¬ isText s x) : rdV s = noName ∧ rdC s = 6 := by
  have he : ¬ ∃ x, isText s x := fun ⟨x, hx⟩ => h x hx
  rw [rdV, rdC, dif_neg he, if_neg he]
  exact ⟨rfl, rfl⟩
theorem rd_cases (s : ByteArray) : (∃ x, isText s x ∧ rdV s = x ∧ rdC s = 0) ∨ ((∀ x, ¬ isText s x) ∧ rdV s = noName ∧ rdC s = 6) := by
  by_cases h : ∃ x, isText s x
  · obtain ⟨x, hx⟩ := h
    exact .inl ⟨x, hx, rd_yes hx⟩
  · have h' : ∀ x, ¬ isText s x := fun x hx => h ⟨x, hx⟩
    exact .inr ⟨h', rd_no h'⟩
/-- Read off four pieces. -/
theorem isText_of {s : ByteArray} {t l : ByteArray} {st a b : Int} {w2 w3 : List UInt8} (h : splitL 47 s.data.toList = [t.data.toList, l.data.toList, w2, w3]) (h2 : Lib.itoa st = w2) (h3 : spanT a b = w3) (hn : nameB ⟨t, l, st, a, b⟩ = true) : isText s ⟨t, l, st, a, b⟩ :=
  ⟨hn, name_join (by rw [h, ← h2, ← h3])⟩
theorem isText_split {s : ByteArray} {x : NameV} (h : isText s x) : splitL 47 s.data.toList = [x.text.data.toList, x.lang.data.toList, Lib.itoa x.status, spanT x.from_ x.to_] := by
  rw [← h.2]; exact name_split h.1
/-- How the program reads a number: its value, and whether it is written so. -/
def numV (s : List UInt8) : Int := match Lib.parseIntB 64 s with | .ok n => n | .range => Lib.intSat 64 s | _ => 0
def numB (s : List UInt8) : Bool := match Lib.parseIntB 64 s with | .ok n => decide (Lib.itoa n = s) | .range => false | _ => false
theorem num_of {s : List UInt8} {n : Int} (h0 : -9223372036854775808 ≤ n) (h1 : n ≤ 9223372036854775807) (h : Lib.itoa n = s) : numB s = true ∧ numV s = n := by
  subst h
  rw [numB, numV, atoi_itoa n h0 h1]
  simp
theorem num_ok {s : List UInt8} (h : numB s = true) : Lib.itoa (numV s) = s ∧ -9223372036854775808 ≤ numV s ∧ numV s ≤ 9223372036854775807 := by
  rw [numB] at h
  rw [numV]
  cases hp : Lib.parseIntB 64 s with
  | ok n =>
    rw [hp] at h
    rw [Lib.parseIntB_64] at hp
    exact ⟨by simpa using h, Lib.atoiAll_bounds hp⟩
  | range => rw [hp] at h; cases h
  | _ => rw [hp] at h; cases h
theorem numV_bd (s : List UInt8) : -9223372036854775808 ≤ numV s ∧ numV s ≤ 9223372036854775807 := by
  rw [numV]
  cases hp : Lib.parseIntB 64 s with
  | ok n => rw [Lib.parseIntB_64] at hp; exact Lib.atoiAll_bounds hp
  | range => simp only; rw [Lib.intSat_64]; exact Lib.atoiSat_bounds s
  | _ => simp
theorem num_nil : numB [] = false := rfl
/-- How it reads a span. -/
def spV (s : List UInt8) : SpanV := ⟨numV (Lib.cut s [46, 46]).1, numV (Lib.cut s [46, 46]).2.1⟩
def spB (s : List UInt8) : Bool := numB (Lib.cut s [46, 46]).1 && (numB (Lib.cut s [46, 46]).2.1 && spanB (spV s))
theorem sp_of {s : List UInt8} {a b : Int} (h : spanT a b = s) (hs : spanB ⟨a, b⟩ = true) : spB s = true ∧ spV s = ⟨a, b⟩ := by
  subst h
  obtain ⟨⟨h1, h2⟩, h3, h4⟩ := spanB_wide hs
  simp only at h1 h2 h3 h4
  rw [spB, spV, cut_span]
  obtain ⟨k1, k2⟩ := num_of h1 h2 rfl
  obtain ⟨k3, k4⟩ := num_of h3 h4 rfl
  simp only [k1, k2, k3, k4, hs]
  exact ⟨rfl, trivial⟩
theorem sp_ok {s : List UInt8} (h : spB s = true) : spanT (spV s).from_ (spV s).to_ = s ∧ spanB (spV s) = true := by
  rw [spB, Bool.and_eq_true, Bool.and_eq_true] at h
  refine ⟨?_, h.2.2⟩
  have h1 := (num_ok h.1).1
  have h2 := (num_ok h.2.1).1
  cases hc : (Lib.cut s [46, 46]).2.2
  · rw [cut_miss hc, num_nil] at h
    exact absurd h.2.1 (by decide)
  · have := cut_of hc
    rw [spV, spanT, h1, h2]
    conv => rhs; rw [this]
    simp
end Go.Proofs.YtajgjccnhippcaaGreatDoor

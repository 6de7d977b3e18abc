/-
  Official names, plain: at most one in a year.
-/
import Derived.Test.YteencdgaldhanaaGreatDoorNU2
import Derived.Test.YteencdgaldhanaaGreatDoorOR
namespace Go.Proofs.YteencdgaldhanaaGreatDoor

/-- Two official names of one language meet. -/
def Cl (a b : NameV) : Prop := a.status = 0 ∧ b.status = 0 ∧ a.lang = b.lang ∧ a.from_ ≤ b.to_ ∧ b.from_ ≤ a.to_
theorem Cl.symm {a b : NameV} (h : Cl a b) : Cl b a := ⟨h.2.1, h.1, h.2.2.1.symm, h.2.2.2.2, h.2.2.2.1⟩
def NB (xs : List NameV) : Prop := (∀ x ∈ xs, nameB x = true) ∧ List.Pairwise (fun a b => ¬ Cl a b) xs
def Off (xs : List NameV) (s : ByteArray) (y : Int) (x : NameV) : Prop := x ∈ xs ∧ offY s y x = true
theorem offY_iff {s : ByteArray} {y : Int} {x : NameV} : offY s y x = true ↔ (x.status = 0 ∧ x.lang = s) ∧ x.from_ ≤ y ∧ y ≤ x.to_ := by
  rw [offY, offB, Bool.and_eq_true, Bool.and_eq_true, decide_eq_true_iff, decide_eq_true_iff, inB_iff]
theorem NB.perm {xs ys : List NameV} (h : xs.Perm ys) : NB xs ↔ NB ys := by
  have hs : ∀ {a b : NameV}, ¬ Cl a b → ¬ Cl b a := fun h k => h k.symm
  constructor
  · rintro ⟨h1, h2⟩
    exact ⟨fun x hx => h1 x (h.mem_iff.2 hx), (h.pairwise_iff hs).1 h2⟩
  · rintro ⟨h1, h2⟩
    exact ⟨fun x hx => h1 x (h.mem_iff.1 hx), (h.pairwise_iff hs).2 h2⟩
theorem off_one {xs : List NameV} {s : ByteArray} {y : Int} {a b : NameV} (h : NB xs) (ha : Off xs s y a) (hb : Off xs s y b) : a = b := by
  obtain ⟨i, hi, rfl⟩ := List.getElem_of_mem ha.1
  obtain ⟨j, hj, rfl⟩ := List.getElem_of_mem hb.1
  have hp := List.pairwise_iff_getElem.1 h.2
  obtain ⟨⟨a1, a2⟩, a3, a4⟩ := offY_iff.1 ha.2
  obtain ⟨⟨b1, b2⟩, b3, b4⟩ := offY_iff.1 hb.2
  rcases Nat.lt_trichotomy i j with hlt | rfl | hlt
  · exact absurd ⟨a1, b1, a2.trans b2.symm, by omega, by omega⟩ (hp i j hi hj hlt)
  · rfl
  · exact absurd ⟨b1, a1, b2.trans a2.symm, by omega, by omega⟩ (hp j i hj hi hlt)
theorem off_at {xs : List NameV} {s : ByteArray} {y : Int} : (offI xs s y < 0 ∧ ∀ x, ¬ Off xs s y x) ∨ ∃ k, k < xs.length ∧ offI xs s y = (k : Nat) ∧ Off xs s y (nthName xs k) := by
  rcases idxP_cases (offY s y) xs with ⟨e, h⟩ | ⟨k, hk, e, hp, _⟩
  · refine .inl ⟨by rw [offI, e]; decide, fun x hx => ?_⟩
    obtain ⟨j, hj, rfl⟩ := List.getElem_of_mem hx.1
    exact absurd hx.2 (by rw [h j hj]; decide)
  · refine .inr ⟨k, hk, e, ?_⟩
    rw [nthName_eq hk]
    exact ⟨List.getElem_mem _, hp⟩
theorem clash_iff {x y : NameV} (hy : y.status = 0) : clashB y x = true ↔ Cl x y := by
  rw [clashB, offB, meetB, Bool.and_eq_true, Bool.and_eq_true, Bool.and_eq_true, decide_eq_true_iff, decide_eq_true_iff, decide_eq_true_iff, decide_eq_true_iff]
  exact ⟨fun h => ⟨h.1.1, hy, h.1.2, h.2.1, h.2.2⟩, fun h => ⟨⟨h.1, h.2.2.1⟩, h.2.2.2.1, h.2.2.2.2⟩⟩
theorem namesB_iff {xs : List NameV} : namesB xs = true ↔ NB xs ∧ xs.length ≤ 12 := by
  rw [namesB, Bool.and_eq_true, decide_eq_true_iff]
  refine and_congr_left fun _ => ?_
  constructor
  · intro h
    rw [firstsN, List.all_eq_true] at h
    have h' : ∀ i, i < xs.length → nameB (nthName xs i) = true ∧ ((nthName xs i).status = 0 → anyP (clashB (nthName xs i)) (xs.take i) = false) := fun i hi => by
      have := h i (List.mem_range.2 hi)
      rw [Bool.and_eq_true] at this
      refine ⟨this.1, fun h0 => ?_⟩
      have h2 := this.2
      rw [h0] at h2
      simpa using h2
    refine ⟨fun x hx => ?_, List.pairwise_iff_getElem.2 fun i j hi hj hij hcl => ?_⟩
    · obtain ⟨i, hi, rfl⟩ := List.getElem_of_mem hx
      rw [← nthName_eq hi]
      exact (h' i hi).1
    · rw [← nthName_eq hi, ← nthName_eq hj] at hcl
      have h1 := (anyP_not ((h' j hj).2 hcl.2.1)).2 i (by rw [List.length_take]; omega)
      rw [List.getElem_take, ← nthName_eq hi, (clash_iff hcl.2.1).2 hcl] at h1
      exact absurd h1 (by decide)
  · rintro ⟨h1, h2⟩
    refine firstsN_good fun k hk => ⟨?_, fun h0 => anyP_none fun j hj => ?_⟩
    · rw [nthName_eq hk]
      exact h1 _ (List.getElem_mem _)
    · have hj2 : j < k ∧ j < xs.length := by rw [List.length_take] at hj; omega
      rw [List.getElem_take]
      refine Bool.eq_false_iff.2 fun hc => ?_
      have := (clash_iff h0).1 hc
      rw [nthName_eq hk] at this
      exact List.pairwise_iff_getElem.1 h2 j k hj2.2 hk hj2.1 this
theorem nameB_of {x : NameV} (h1 : phraseB x.text = true) (h2 : langB x.lang = true) (h3 : inB x.status 0 2 = true) (h4 : spanB ⟨x.from_, x.to_⟩ = true) : nameB x = true := by
  rw [nameB, h1, h2, h3, h4]; rfl
theorem nameB_pc {x : NameV} (h : nameB x = true) : phraseB x.text = true ∧ langB x.lang = true ∧ inB x.status 0 2 = true ∧ spanB ⟨x.from_, x.to_⟩ = true := by
  rw [nameB, Bool.and_eq_true, Bool.and_eq_true, Bool.and_eq_true] at h
  exact ⟨h.1, h.2.1, h.2.2.1, h.2.2.2⟩
/-- The code and the text, by the official name. -/
theorem off_says {ws : List NameV} {s : ByteArray} {z : Int} (h : namesB ws = true) (hl : langB s = true) (hz : -3000 ≤ z ∧ z ≤ 3000) :
    (offC ws s z = 4 ∧ ∀ b, ¬ Off ws s z b) ∨ (offC ws s z = 0 ∧ ∃ k, k < ws.length ∧ offV ws s z = (k : Nat) ∧ Off ws s z (nthName ws k)) := by
  have hc := codeN_ok h hl (inB_iff.2 hz)
  rcases off_at (xs := ws) (s := s) (y := z) with ⟨e, hn⟩ | ⟨k, hk, e, ho⟩
  · refine .inl ⟨?_, hn⟩
    rw [offC, if_pos hc, if_pos e]
  · refine .inr ⟨?_, k, hk, ?_, ho⟩
    · rw [offC, if_pos hc, if_neg (by omega)]
    · rw [offV, if_pos ⟨hc, by omega⟩, e]

end Go.Proofs.YteencdgaldhanaaGreatDoor

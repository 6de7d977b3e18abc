/-
  What FnNames says (plain).
-/
import Derived.Test.YteencdgaldhanaaGreatDoorNB2
import Derived.Test.YteencdgaldhanaaGreatDoorRN3
namespace Go.Proofs.YteencdgaldhanaaGreatDoor
open Go.RowKit

theorem bestN_lang (xs : List NameV) (l : ByteArray) (y : Int) : ∀ k, k ≤ xs.length → 0 ≤ bestN xs l y k → ∃ i, i < xs.length ∧ bestN xs l y k = (i : Nat) ∧ (nthName xs i).lang = l := by
  intro k
  induction k with
  | zero => intro _ h; simp [bestN] at h
  | succ k ih =>
    intro hk h
    rw [bestN_step] at h ⊢
    cases hy : hasY xs y k
    · rw [hy] at h
      rw [if_neg (by decide)] at h ⊢
      exact ih (by omega) h
    · rw [hy] at h
      rw [if_pos rfl] at h ⊢
      cases hb : betterB xs l (bestN xs l y k) k
      · rw [bestS, hb, if_neg (by decide)] at h ⊢
        exact ih (by omega) h
      · rw [bestS, hb, if_pos rfl] at h ⊢
        rw [betterB, Bool.and_eq_true] at hb
        exact ⟨k, by omega, rfl, of_decide_eq_true hb.1⟩
/-- The best name's language is one of those asked for. -/
theorem bst_lang {xs : List NameV} {ls : List ByteArray} {y : Int} (h : bstC xs ls y = 0) : ∃ i, i < xs.length ∧ bstV xs ls y = (i : Nat) ∧ ∃ q, q < ls.length ∧ (nthName xs i).lang = nthS ls q := by
  by_cases hc : codeN xs (langsB ls) y = 0
  · by_cases hr : bestR xs ls y < 0
    · rw [(bst_none hc hr).2] at h; omega
    · rw [(bst_some hc hr).1]
      rw [bestR] at hr ⊢
      rcases idxP_cases (fun l => decide (0 ≤ bestA xs l y)) ls with ⟨e, _⟩ | ⟨q, hq, e, hp, _⟩
      · rw [bestI, e, if_pos (by decide)] at hr
        exact absurd hr (by decide)
      · have e2 : bestI xs ls y = (q : Nat) := e
        rw [e2, if_neg (by omega), Int.toNat_natCast]
        have h0 : 0 ≤ bestA xs (nthS ls q) y := by rw [nthS_eq hq]; exact of_decide_eq_true hp
        obtain ⟨i, hi, e3, e4⟩ := bestN_lang xs (nthS ls q) y xs.length (Nat.le_refl _) h0
        exact ⟨i, hi, e3, q, hq, e4⟩
  · rw [(bst_code hc).2] at h; exact absurd h hc

/-- Two official names of one language meet. -/
def Cl (a b : NameV) : Prop := a.status = 0 ∧ b.status = 0 ∧ a.lang = b.lang ∧ a.from_ ≤ b.to_ ∧ b.from_ ≤ a.to_
theorem Cl.symm {a b : NameV} (h : Cl a b) : Cl b a := ⟨h.2.1, h.1, h.2.2.1.symm, h.2.2.2.2, h.2.2.2.1⟩
def NB (xs : List NameV) : Prop := (∀ x ∈ xs, nameB x = true) ∧ List.Pairwise (fun a b => ¬ Cl a b) xs
def Off (xs : List NameV) (s : ByteArray) (y : Int) (x : NameV) : Prop := x ∈ xs ∧ offY s y x = true
theorem offY_iff {s : ByteArray} {y : Int} {x : NameV} : offY s y x = true ↔ (x.status = 0 ∧ x.lang = s) ∧ x.from_ ≤ y ∧ y ≤ x.to_ := by
  rw [offY, offB, Bool.and_eq_true, Bool.and_eq_true, decide_eq_true_iff, decide_eq_true_iff, inB_iff]
theorem NB.perm {xs ys : List NameV} (h : xs.Perm ys) : NB xs ↔ NB ys := by
  have hs : ∀ {a b : NameV}, ¬ Cl a b → ¬ Cl b a := fun h k => h k.symm
  constructor
  · rintro ⟨h1, h2⟩
    exact ⟨fun x hx => h1 x (h.mem_iff.2 hx), (h.pairwise_iff hs).1 h2⟩
  · rintro ⟨h1, h2⟩
    exact ⟨fun x hx => h1 x (h.mem_iff.1 hx), (h.pairwise_iff hs).2 h2⟩
theorem off_one {xs : List NameV} {s : ByteArray} {y : Int} {a b : NameV} (h : NB xs) (ha : Off xs s y a) (hb : Off xs s y b) : a = b := by
  obtain ⟨i, hi, rfl⟩ := List.getElem_of_mem ha.1
  obtain ⟨j, hj, rfl⟩ := List.getElem_of_mem hb.1
  have hp := List.pairwise_iff_getElem.1 h.2
  obtain ⟨⟨a1, a2⟩, a3, a4⟩ := offY_iff.1 ha.2
  obtain ⟨⟨b1, b2⟩, b3, b4⟩ := offY_iff.1 hb.2
  rcases Nat.lt_trichotomy i j with hlt | rfl | hlt
  · exact absurd ⟨a1, b1, a2.trans b2.symm, by omega, by omega⟩ (hp i j hi hj hlt)
  · rfl
  · exact absurd ⟨b1, a1, b2.trans a2.symm, by omega, by omega⟩ (hp j i hj hi hlt)
theorem off_at {xs : List NameV} {s : ByteArray} {y : Int} : (offI xs s y < 0 ∧ ∀ x, ¬ Off xs s y x) ∨ ∃ k, k < xs.length ∧ offI xs s y = (k : Nat) ∧ Off xs s y (nthName xs k) := by
  rcases idxP_cases (offY s y) xs with ⟨e, h⟩ | ⟨k, hk, e, hp, _⟩
  · refine .inl ⟨by rw [offI, e]; decide, fun x hx => ?_⟩
    obtain ⟨j, hj, rfl⟩ := List.getElem_of_mem hx.1
    exact absurd hx.2 (by rw [h j hj]; decide)
  · refine .inr ⟨k, hk, e, ?_⟩
    rw [nthName_eq hk]
    exact ⟨List.getElem_mem _, hp⟩
theorem ren_perm {xs : List NameV} {k : Nat} {y : Int} {t : ByteArray} (hk : k < xs.length) : (renL xs k y t).Perm (renN xs k y t :: (renM xs k y ++ (xs.take k ++ xs.drop (k + 1)))) ∧ xs.Perm (nthName xs k :: (xs.take k ++ xs.drop (k + 1))) := by
  constructor
  · rw [renL]
    refine List.perm_append_comm.trans ?_
    refine List.Perm.cons _ ?_
    rw [← List.append_assoc, ← List.append_assoc]
    exact List.Perm.append_right _ List.perm_append_comm
  · have e : xs = xs.take k ++ (nthName xs k :: xs.drop (k + 1)) := by
      rw [nthName_eq hk, List.getElem_cons_drop, List.take_append_drop]
    conv => lhs; rw [e]
    exact List.perm_middle
theorem clash_iff {x y : NameV} (hy : y.status = 0) : clashB y x = true ↔ Cl x y := by
  rw [clashB, offB, meetB, Bool.and_eq_true, Bool.and_eq_true, Bool.and_eq_true, decide_eq_true_iff, decide_eq_true_iff, decide_eq_true_iff, decide_eq_true_iff]
  exact ⟨fun h => ⟨h.1.1, hy, h.1.2, h.2.1, h.2.2⟩, fun h => ⟨⟨h.1, h.2.2.1⟩, h.2.2.2.1, h.2.2.2.2⟩⟩
theorem namesB_iff {xs : List NameV} : namesB xs = true ↔ NB xs ∧ xs.length ≤ 12 := by
  rw [namesB, Bool.and_eq_true, decide_eq_true_iff]
  refine and_congr_left fun _ => ?_
  constructor
  · intro h
    rw [firstsN, List.all_eq_true] at h
    have h' : ∀ i, i < xs.length → nameB (nthName xs i) = true ∧ ((nthName xs i).status = 0 → anyP (clashB (nthName xs i)) (xs.take i) = false) := fun i hi => by
      have := h i (List.mem_range.2 hi)
      rw [Bool.and_eq_true] at this
      refine ⟨this.1, fun h0 => ?_⟩
      have h2 := this.2
      rw [h0] at h2
      simpa using h2
    refine ⟨fun x hx => ?_, List.pairwise_iff_getElem.2 fun i j hi hj hij hcl => ?_⟩
    · obtain ⟨i, hi, rfl⟩ := List.getElem_of_mem hx
      rw [← nthName_eq hi]
      exact (h' i hi).1
    · rw [← nthName_eq hi, ← nthName_eq hj] at hcl
      have h1 := (anyP_not ((h' j hj).2 hcl.2.1)).2 i (by rw [List.length_take]; omega)
      rw [List.getElem_take, ← nthName_eq hi, (clash_iff hcl.2.1).2 hcl] at h1
      exact absurd h1 (by decide)
  · rintro ⟨h1, h2⟩
    refine firstsN_good fun k hk => ⟨?_, fun h0 => anyP_none fun j hj => ?_⟩
    · rw [nthName_eq hk]
      exact h1 _ (List.getElem_mem _)
    · have hj2 : j < k ∧ j < xs.length := by rw [List.length_take] at hj; omega
      rw [List.getElem_take]
      refine Bool.eq_false_iff.2 fun hc => ?_
      have := (clash_iff h0).1 hc
      rw [nthName_eq hk] at this
      exact List.pairwise_iff_getElem.1 h2 j k hj2.2 hk hj2.1 this
theorem renM_mem {xs : List NameV} {k : Nat} {y : Int} {b : NameV} (h : b ∈ renM xs k y) : (nthName xs k).from_ ≠ y ∧ b = ⟨(nthName xs k).text, (nthName xs k).lang, (nthName xs k).status, (nthName xs k).from_, y - 1⟩ := by
  rw [renM] at h
  split at h
  · cases h
  · exact ⟨by assumption, List.mem_singleton.1 h⟩
theorem nameB_of {x : NameV} (h1 : phraseB x.text = true) (h2 : langB x.lang = true) (h3 : inB x.status 0 2 = true) (h4 : spanB ⟨x.from_, x.to_⟩ = true) : nameB x = true := by
  rw [nameB, h1, h2, h3, h4]; rfl
theorem nameB_pc {x : NameV} (h : nameB x = true) : phraseB x.text = true ∧ langB x.lang = true ∧ inB x.status 0 2 = true ∧ spanB ⟨x.from_, x.to_⟩ = true := by
  rw [nameB, Bool.and_eq_true, Bool.and_eq_true, Bool.and_eq_true] at h
  exact ⟨h.1, h.2.1, h.2.2.1, h.2.2.2⟩
theorem ren_NB {xs : List NameV} {k : Nat} {y : Int} {s t : ByteArray} (h : NB xs) (hk : k < xs.length) (ho : offY s y (nthName xs k) = true) (ht : phraseB t = true) : NB (renL xs k y t) := by
  obtain ⟨p1, p2⟩ := ren_perm (t := t) (y := y) hk
  rw [NB.perm p1]
  obtain ⟨ha, hp⟩ := (NB.perm p2).1 h
  obtain ⟨hc, hp⟩ := List.pairwise_cons.1 hp
  have hx := ha _ (List.mem_cons_self ..)
  have hr : ∀ b ∈ xs.take k ++ xs.drop (k + 1), nameB b = true := fun b hb => ha b (List.mem_cons_of_mem _ hb)
  obtain ⟨⟨o1, o2⟩, o3, o4⟩ := offY_iff.1 ho
  obtain ⟨c1, c2, c3, c4⟩ := nameB_pc hx
  have c5 := spanB_iff.1 c4
  simp only at c5
  refine ⟨fun b hb => ?_, List.pairwise_cons.2 ⟨fun b hb hcl => ?_, List.pairwise_append.2 ⟨?_, hp, fun a ham b hb hcl => ?_⟩⟩⟩
  · rcases List.mem_cons.1 hb with rfl | hb
    · exact nameB_of ht c2 rfl (spanB_iff.2 (by simp only [renN]; omega))
    · rcases List.mem_append.1 hb with hb | hb
      · obtain ⟨hne, rfl⟩ := renM_mem hb
        exact nameB_of c1 c2 c3 (spanB_iff.2 (by simp only; omega))
      · exact hr b hb
  · obtain ⟨q1, q2, q3, q4, q5⟩ := hcl
    simp only [renN] at q1 q3 q4 q5
    rcases List.mem_append.1 hb with hb | hb
    · obtain ⟨hne, rfl⟩ := renM_mem hb
      simp only at q4
      omega
    · exact hc b hb ⟨o1, q2, q3, by omega, q5⟩
  · rw [renM]
    split
    · exact List.Pairwise.nil
    · exact List.pairwise_singleton _ _
  · obtain ⟨hne, rfl⟩ := renM_mem ham
    obtain ⟨q1, q2, q3, q4, q5⟩ := hcl
    simp only at q1 q3 q4 q5
    exact hc b hb ⟨o1, q2, q3, q4, by omega⟩
/-- Before the year the official texts are the same. -/
theorem ren_off {xs : List NameV} {k : Nat} {y z : Int} {s t T : ByteArray} (hk : k < xs.length) (ho : offY s y (nthName xs k) = true) (hz : z < y) : (∃ b, Off (renL xs k y t) s z b ∧ b.text = T) ↔ ∃ b, Off xs s z b ∧ b.text = T := by
  obtain ⟨p1, p2⟩ := ren_perm (t := t) (y := y) hk
  obtain ⟨⟨o1, o2⟩, o3, o4⟩ := offY_iff.1 ho
  constructor
  · rintro ⟨b, ⟨hb, hf⟩, rfl⟩
    obtain ⟨⟨f1, f2⟩, f3, f4⟩ := offY_iff.1 hf
    rcases List.mem_cons.1 (p1.mem_iff.1 hb) with rfl | hb
    · simp only [renN] at f3; omega
    · rcases List.mem_append.1 hb with hb | hb
      · obtain ⟨hne, rfl⟩ := renM_mem hb
        simp only at f3 f4
        exact ⟨nthName xs k, ⟨p2.mem_iff.2 (List.mem_cons_self ..), offY_iff.2 ⟨⟨o1, o2⟩, f3, by omega⟩⟩, rfl⟩
      · exact ⟨b, ⟨p2.mem_iff.2 (List.mem_cons_of_mem _ hb), hf⟩, rfl⟩
  · rintro ⟨b, ⟨hb, hf⟩, rfl⟩
    obtain ⟨⟨f1, f2⟩, f3, f4⟩ := offY_iff.1 hf
    rcases List.mem_cons.1 (p2.mem_iff.1 hb) with rfl | hb
    · have hne : (nthName xs k).from_ ≠ y := by omega
      refine ⟨⟨(nthName xs k).text, (nthName xs k).lang, (nthName xs k).status, (nthName xs k).from_, y - 1⟩, ⟨p1.mem_iff.2 (List.mem_cons_of_mem _ (List.mem_append.2 (.inl ?_))), offY_iff.2 ⟨⟨o1, o2⟩, f3, by simp only; omega⟩⟩, rfl⟩
      rw [renM, if_neg hne]
      exact List.mem_singleton.2 rfl
    · exact ⟨b, ⟨p1.mem_iff.2 (List.mem_cons_of_mem _ (List.mem_append.2 (.inr hb))), hf⟩, rfl⟩
/-- In the year itself the official text is the new one. -/
theorem ren_now {xs : List NameV} {k : Nat} {y : Int} {s t : ByteArray} (hk : k < xs.length) (ho : offY s y (nthName xs k) = true) : Off (renL xs k y t) s y (renN xs k y t) := by
  obtain ⟨p1, _⟩ := ren_perm (t := t) (y := y) hk
  obtain ⟨⟨o1, o2⟩, o3, o4⟩ := offY_iff.1 ho
  exact ⟨p1.mem_iff.2 (List.mem_cons_self ..), offY_iff.2 ⟨⟨rfl, o2⟩, Int.le_refl _, o4⟩⟩
/-- What RenameIn's success says. -/
theorem rn_facts {xs : List NameV} {s t : ByteArray} {y : Int} (h : rnC xs s y t = 0) : phraseB t = true ∧ offC xs s y = 0 ∧ rnL xs s y t = rnL0 xs s y t ∧ (rnL0 xs s y t).length ≤ 12 := by
  cases hp : phraseB t
  · rw [(rn_text hp).1] at h; exact absurd h (by decide)
  · by_cases h2 : offC xs s y = 0
    · by_cases h3 : 12 < (rnL0 xs s y t).length
      · rw [(rn_many hp h2 h3).1] at h; exact absurd h (by decide)
      · exact ⟨rfl, h2, (rn_yes hp h2 h3).2, by omega⟩
    · rw [(rn_code hp h2).1] at h; exact absurd h h2
theorem off_k {xs : List NameV} {s : ByteArray} {y : Int} (h : offC xs s y = 0) : rnK xs s y < xs.length ∧ offY s y (nthName xs (rnK xs s y)) = true ∧ NB xs ∧ langB s = true ∧ (-3000 ≤ y ∧ y ≤ 3000) := by
  obtain ⟨h1, _, h3, h4, h5, h6⟩ := off_zero h
  rcases off_at (xs := xs) (s := s) (y := y) with ⟨e, _⟩ | ⟨k, hk, e, ho⟩
  · omega
  · rw [e] at h3
    have : k = rnK xs s y := by omega
    subst this
    refine ⟨h4, ho.2, (namesB_iff.1 h5).1, ?_, h6⟩
    cases hl : langB s
    · rw [hl, codeN_bad (.inr rfl)] at h1; exact absurd h1 (by decide)
    · rfl
theorem rn_names {xs : List NameV} {s t : ByteArray} {y : Int} (h : rnC xs s y t = 0) : namesB (rnL xs s y t) = true := by
  obtain ⟨h1, h2, h3, h4⟩ := rn_facts h
  obtain ⟨k1, k2, k3, _, _⟩ := off_k h2
  rw [h3]
  exact namesB_iff.2 ⟨ren_NB k3 k1 k2 h1, h4⟩
/-- The code and the text, by the official name. -/
theorem off_says {ws : List NameV} {s : ByteArray} {z : Int} (h : namesB ws = true) (hl : langB s = true) (hz : -3000 ≤ z ∧ z ≤ 3000) :
    (offC ws s z = 4 ∧ ∀ b, ¬ Off ws s z b) ∨ (offC ws s z = 0 ∧ ∃ k, k < ws.length ∧ offV ws s z = (k : Nat) ∧ Off ws s z (nthName ws k)) := by
  have hc := codeN_ok h hl (inB_iff.2 hz)
  rcases off_at (xs := ws) (s := s) (y := z) with ⟨e, hn⟩ | ⟨k, hk, e, ho⟩
  · refine .inl ⟨?_, hn⟩
    rw [offC, if_pos hc, if_pos e]
  · refine .inr ⟨?_, k, hk, ?_, ho⟩
    · rw [offC, if_pos hc, if_neg (by omega)]
    · rw [offV, if_pos ⟨hc, by omega⟩, e]
/-- The law of the year itself. -/
theorem rn_now {xs : List NameV} {s t : ByteArray} {y : Int} (h : rnC xs s y t = 0) : offC (rnL xs s y t) s y = 0 ∧ ∃ k, k < (rnL xs s y t).length ∧ offV (rnL xs s y t) s y = (k : Nat) ∧ (nthName (rnL xs s y t) k).text = t := by
  have hn := rn_names h
  obtain ⟨h1, h2, h3, h4⟩ := rn_facts h
  obtain ⟨k1, k2, k3, k4, k5⟩ := off_k h2
  have hw : Off (rnL xs s y t) s y (renN xs (rnK xs s y) y t) := by rw [h3]; exact ren_now k1 k2
  rcases off_says hn k4 k5 with ⟨_, e⟩ | ⟨e, k, hk, ev, ho⟩
  · exact absurd hw (e _)
  · refine ⟨e, k, hk, ev, ?_⟩
    rw [off_one (namesB_iff.1 hn).1 ho hw]
    rfl
/-- The law of the years before. -/
theorem rn_before {xs : List NameV} {s t : ByteArray} {y z : Int} (h : rnC xs s y t = 0) (hz : z < y) (hz0 : -3000 ≤ z) :
    offC xs s z = offC (rnL xs s y t) s z ∧ (offC xs s z = 0 → ∃ j k, j < xs.length ∧ k < (rnL xs s y t).length ∧ offV xs s z = (j : Nat) ∧ offV (rnL xs s y t) s z = (k : Nat) ∧ (nthName xs j).text = (nthName (rnL xs s y t) k).text) := by
  have hn := rn_names h
  obtain ⟨h1, h2, h3, h4⟩ := rn_facts h
  obtain ⟨k1, k2, k3, k4, k5⟩ := off_k h2
  have hx := off_zero h2
  have hiff := fun T => ren_off (t := t) (T := T) k1 k2 hz
  rw [show renL xs (rnK xs s y) y t = rnL xs s y t from h3.symm] at hiff
  rcases off_says (z := z) hx.2.2.2.2.1 k4 (by omega) with ⟨a1, a2⟩ | ⟨a1, j, hj, av, ao⟩
  · rcases off_says (z := z) hn k4 (by omega) with ⟨b1, b2⟩ | ⟨b1, k, hk, bv, bo⟩
    · exact ⟨a1.trans b1.symm, fun h0 => by rw [a1] at h0; exact absurd h0 (by decide)⟩
    · obtain ⟨b, hb, _⟩ := (hiff _).1 ⟨_, bo, rfl⟩
      exact absurd hb (a2 b)
  · rcases off_says (z := z) hn k4 (by omega) with ⟨b1, b2⟩ | ⟨b1, k, hk, bv, bo⟩
    · obtain ⟨b, hb, _⟩ := (hiff _).2 ⟨_, ao, rfl⟩
      exact absurd hb (b2 b)
    · refine ⟨a1.trans b1.symm, fun _ => ⟨j, k, hj, hk, av, bv, ?_⟩⟩
      obtain ⟨b, hb, e⟩ := (hiff _).2 ⟨_, ao, rfl⟩
      rw [← e, off_one (namesB_iff.1 hn).1 hb bo]

end Go.Proofs.YteencdgaldhanaaGreatDoor

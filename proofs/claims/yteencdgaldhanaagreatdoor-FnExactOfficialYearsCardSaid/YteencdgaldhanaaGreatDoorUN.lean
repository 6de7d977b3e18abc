/-
  Spans: the union of spans in order, and the spans that are built year by year (plain).
-/
import Derived.Test.YteencdgaldhanaaGreatDoorNSpan
namespace Go.Proofs.YteencdgaldhanaaGreatDoor

/-- The years of spans. -/
def covers (xs : List SpanV) (y : Int) : Prop := ∃ x ∈ xs, x.from_ ≤ y ∧ y ≤ x.to_
/-- Valid spans of which no two touch, in order. -/
def Apart2 (xs : List SpanV) : Prop := (∀ x ∈ xs, x.from_ ≤ x.to_) ∧ xs.Pairwise fun a b => a.to_ + 2 ≤ b.from_
theorem covers_nil (y : Int) : ¬ covers [] y := fun ⟨_, h, _⟩ => by cases h
theorem covers_cons {x : SpanV} {xs : List SpanV} {y : Int} : covers (x :: xs) y ↔ (x.from_ ≤ y ∧ y ≤ x.to_) ∨ covers xs y := by
  constructor
  · rintro ⟨z, hz, h⟩
    rcases List.mem_cons.1 hz with e | m
    · exact .inl (e ▸ h)
    · exact .inr ⟨z, m, h⟩
  · rintro (h | ⟨z, hz, h⟩)
    · exact ⟨x, List.mem_cons_self .., h⟩
    · exact ⟨z, List.mem_cons_of_mem _ hz, h⟩
theorem covers_snoc {x : SpanV} {xs : List SpanV} {y : Int} : covers (xs ++ [x]) y ↔ covers xs y ∨ (x.from_ ≤ y ∧ y ≤ x.to_) := by
  constructor
  · rintro ⟨z, hz, h⟩
    rcases List.mem_append.1 hz with m | e
    · exact .inl ⟨z, m, h⟩
    · exact .inr (List.mem_singleton.1 e ▸ h)
  · rintro (⟨z, hz, h⟩ | h)
    · exact ⟨z, List.mem_append_left _ hz, h⟩
    · exact ⟨x, by simp, h⟩
theorem sep_cons {x : SpanV} {xs : List SpanV} (h : Apart2 (x :: xs)) : x.from_ ≤ x.to_ ∧ (∀ z ∈ xs, x.to_ + 2 ≤ z.from_) ∧ Apart2 xs :=
  ⟨h.1 x (List.mem_cons_self ..), (List.pairwise_cons.1 h.2).1, fun z hz => h.1 z (List.mem_cons_of_mem _ hz), (List.pairwise_cons.1 h.2).2⟩
theorem span_ext {x y : SpanV} (h1 : x.from_ = y.from_) (h2 : x.to_ = y.to_) : x = y := by
  cases x; cases y; simp only at h1 h2; rw [h1, h2]
theorem sep_ge {x : SpanV} {xs : List SpanV} (h : Apart2 (x :: xs)) {y : Int} (hc : covers (x :: xs) y) : x.from_ ≤ y := by
  obtain ⟨h1, h2, h3⟩ := sep_cons h
  rcases covers_cons.1 hc with c | ⟨z, hz, c1, c2⟩
  · exact c.1
  · have := h2 z hz; omega
theorem sep_next {x : SpanV} {xs : List SpanV} (h : Apart2 (x :: xs)) {y : Int} (hc : covers (x :: xs) y) (hy : x.to_ < y) : x.to_ + 2 ≤ y ∧ covers xs y := by
  obtain ⟨h1, h2, h3⟩ := sep_cons h
  rcases covers_cons.1 hc with c | ⟨z, hz, c1, c2⟩
  · omega
  · have := h2 z hz; exact ⟨by omega, z, hz, c1, c2⟩
theorem sep_ext : ∀ {xs ys : List SpanV}, Apart2 xs → Apart2 ys → (∀ y, covers xs y ↔ covers ys y) → xs = ys
  | [], [], _, _, _ => rfl
  | [], y :: ys, _, h, e => absurd ((e y.from_).2 (covers_cons.2 (.inl ⟨Int.le_refl _, h.1 y (List.mem_cons_self ..)⟩))) (covers_nil _)
  | x :: xs, [], h, _, e => absurd ((e x.from_).1 (covers_cons.2 (.inl ⟨Int.le_refl _, h.1 x (List.mem_cons_self ..)⟩))) (covers_nil _)
  | x :: xs, y :: ys, h1, h2, e => by
    obtain ⟨a1, a2, a3⟩ := sep_cons h1
    obtain ⟨b1, b2, b3⟩ := sep_cons h2
    have f1 := sep_ge h2 ((e x.from_).1 (covers_cons.2 (.inl ⟨Int.le_refl _, a1⟩)))
    have f2 := sep_ge h1 ((e y.from_).2 (covers_cons.2 (.inl ⟨Int.le_refl _, b1⟩)))
    have f : x.from_ = y.from_ := by omega
    have t1 : x.to_ ≤ y.to_ := by
      apply Classical.byContradiction
      intro hn
      have hc : covers (y :: ys) (y.to_ + 1) := (e _).1 (covers_cons.2 (.inl ⟨by omega, by omega⟩))
      have := (sep_next h2 hc (by omega)).1
      omega
    have t2 : y.to_ ≤ x.to_ := by
      apply Classical.byContradiction
      intro hn
      have hc : covers (x :: xs) (x.to_ + 1) := (e _).2 (covers_cons.2 (.inl ⟨by omega, by omega⟩))
      have := (sep_next h1 hc (by omega)).1
      omega
    obtain rfl : x = y := span_ext f (by omega)
    rw [sep_ext a3 b3 fun z => ?_]
    constructor
    · rintro ⟨u, hu, c1, c2⟩
      have hx := a2 u hu
      exact (sep_next h2 ((e z).1 (covers_cons.2 (.inr ⟨u, hu, c1, c2⟩))) (by omega)).2
    · rintro ⟨u, hu, c1, c2⟩
      have hx := b2 u hu
      exact (sep_next h1 ((e z).2 (covers_cons.2 (.inr ⟨u, hu, c1, c2⟩))) (by omega)).2
/-- One span more, at the end: it goes on from the last one if it touches it. -/
def addS (l : List SpanV) (s : SpanV) : List SpanV := match l.getLast? with
  | none => [s]
  | some z => if s.from_ ≤ z.to_ + 1 then l.dropLast ++ [⟨z.from_, max z.to_ s.to_⟩] else l ++ [s]
theorem addS_nil (s : SpanV) : addS [] s = [s] := rfl
theorem addS_snoc (i : List SpanV) (z s : SpanV) : addS (i ++ [z]) s = if s.from_ ≤ z.to_ + 1 then i ++ [⟨z.from_, max z.to_ s.to_⟩] else i ++ [z] ++ [s] := by
  rw [addS, List.getLast?_append]
  simp
theorem addS_len (l : List SpanV) (s : SpanV) : (addS l s).length ≤ l.length + 1 := by
  rcases List.eq_nil_or_concat l with rfl | ⟨i, z, rfl⟩
  · simp [addS_nil]
  · rw [List.concat_eq_append, addS_snoc]; split <;> simp
theorem addS_law {l : List SpanV} {s : SpanV} (h : Apart2 l) (hf : ∀ z ∈ l, z.from_ ≤ s.from_) (hs : s.from_ ≤ s.to_) :
    Apart2 (addS l s) ∧ (∀ z ∈ addS l s, z.from_ ≤ s.from_) ∧ ∀ y, covers (addS l s) y ↔ covers l y ∨ (s.from_ ≤ y ∧ y ≤ s.to_) := by
  rcases List.eq_nil_or_concat l with rfl | ⟨i, z, rfl⟩
  · rw [addS_nil]
    refine ⟨⟨by simpa using hs, by simp⟩, by simp, fun y => ?_⟩
    rw [covers_cons]
    constructor
    · rintro (c | c)
      · exact .inr c
      · exact absurd c (covers_nil _)
    · rintro (c | c)
      · exact absurd c (covers_nil _)
      · exact .inl c
  · obtain ⟨h1, h2⟩ := h
    rw [List.concat_eq_append] at h1 h2 hf ⊢
    rw [List.pairwise_append] at h2
    have hz := h1 z (by simp)
    have hzf := hf z (by simp)
    rw [addS_snoc]
    by_cases ht : s.from_ ≤ z.to_ + 1
    · rw [if_pos ht]
      refine ⟨⟨fun x hx => ?_, ?_⟩, fun x hx => ?_, fun y => ?_⟩
      · rcases List.mem_append.1 hx with m | e
        · exact h1 x (List.mem_append_left _ m)
        · rw [List.mem_singleton.1 e]; simp only; omega
      · rw [List.pairwise_append]
        refine ⟨h2.1, List.pairwise_singleton _ _, fun a ha b hb => ?_⟩
        rw [List.mem_singleton.1 hb]
        exact h2.2.2 a ha z (by simp)
      · rcases List.mem_append.1 hx with m | e
        · exact hf x (List.mem_append_left _ m)
        · rw [List.mem_singleton.1 e]; exact hzf
      · rw [covers_snoc, covers_snoc]
        simp only
        constructor
        · rintro (c | c)
          · exact .inl (.inl c)
          · by_cases hy : y ≤ z.to_
            · exact .inl (.inr ⟨c.1, hy⟩)
            · exact .inr ⟨by omega, by omega⟩
        · rintro ((c | c) | c)
          · exact .inl c
          · exact .inr ⟨c.1, by omega⟩
          · exact .inr ⟨by omega, by omega⟩
    · rw [if_neg ht]
      refine ⟨⟨fun x hx => ?_, ?_⟩, fun x hx => ?_, fun y => ?_⟩
      · rcases List.mem_append.1 hx with m | e
        · exact h1 x m
        · rw [List.mem_singleton.1 e]; exact hs
      · rw [List.pairwise_append]
        refine ⟨List.pairwise_append.2 h2, List.pairwise_singleton _ _, fun a ha b hb => ?_⟩
        rw [List.mem_singleton.1 hb]
        rcases List.mem_append.1 ha with m | e
        · have := h2.2.2 a m z (by simp)
          omega
        · rw [List.mem_singleton.1 e]; omega
      · rcases List.mem_append.1 hx with m | e
        · exact hf x m
        · rw [List.mem_singleton.1 e]; exact Int.le_refl _
      · rw [covers_snoc]
/-- The union of spans that are in the order of their beginnings. -/
def unionS (zs : List SpanV) : List SpanV := zs.foldl addS []
theorem union_snoc (zs : List SpanV) (s : SpanV) : unionS (zs ++ [s]) = addS (unionS zs) s := by rw [unionS, List.foldl_append]; rfl
theorem union_len (zs : List SpanV) : (unionS zs).length ≤ zs.length := by
  have : ∀ (zs l : List SpanV), (zs.foldl addS l).length ≤ l.length + zs.length := by
    intro zs
    induction zs with
    | nil => simp
    | cons x xs ih =>
      intro l
      rw [List.foldl_cons]
      have := ih (addS l x)
      have := addS_len l x
      rw [List.length_cons]; omega
  have := this zs []
  rw [List.length_nil, Nat.zero_add] at this
  exact this
theorem union_law {zs : List SpanV} (hs : zs.Pairwise fun a b => a.from_ ≤ b.from_) (hv : ∀ z ∈ zs, z.from_ ≤ z.to_) : Apart2 (unionS zs) ∧ ∀ y, covers (unionS zs) y ↔ covers zs y := by
  have key : ∀ (zs l : List SpanV), Apart2 l → (∀ a ∈ l, ∀ b ∈ zs, a.from_ ≤ b.from_) → zs.Pairwise (fun a b => a.from_ ≤ b.from_) → (∀ z ∈ zs, z.from_ ≤ z.to_) →
      Apart2 (zs.foldl addS l) ∧ ∀ y, covers (zs.foldl addS l) y ↔ covers l y ∨ covers zs y := by
    intro zs
    induction zs with
    | nil => exact fun l h _ _ _ => ⟨h, fun y => ⟨.inl, fun c => c.elim id fun c => absurd c (covers_nil _)⟩⟩
    | cons x xs ih =>
      intro l h hf hp hv
      obtain ⟨p1, p2⟩ := List.pairwise_cons.1 hp
      obtain ⟨a1, a2, a3⟩ := addS_law h (fun z hz => hf z hz x (List.mem_cons_self ..)) (hv x (List.mem_cons_self ..))
      rw [List.foldl_cons]
      obtain ⟨b1, b2⟩ := ih (addS l x) a1 (fun a ha b hb => Int.le_trans (a2 a ha) (p1 b hb)) p2 fun z hz => hv z (List.mem_cons_of_mem _ hz)
      refine ⟨b1, fun y => ?_⟩
      rw [b2, a3, covers_cons, or_assoc]
  obtain ⟨k1, k2⟩ := key zs [] ⟨by simp, List.Pairwise.nil⟩ (by simp) hs hv
  exact ⟨k1, fun y => (k2 y).trans ⟨fun c => c.elim (fun c => absurd c (covers_nil _)) id, .inr⟩⟩
/-- Two lists of spans, each in the order of its beginnings, that tell of the same years have the same union. -/
theorem union_same {zs ys : List SpanV} (h1 : zs.Pairwise fun a b => a.from_ ≤ b.from_) (h2 : ys.Pairwise fun a b => a.from_ ≤ b.from_) (v1 : ∀ z ∈ zs, z.from_ ≤ z.to_) (v2 : ∀ z ∈ ys, z.from_ ≤ z.to_)
    (h : ∀ y, covers zs y ↔ covers ys y) : unionS zs = unionS ys := by
  obtain ⟨a1, a2⟩ := union_law h1 v1
  obtain ⟨b1, b2⟩ := union_law h2 v2
  exact sep_ext a1 b1 fun y => (a2 y).trans ((h y).trans (b2 y).symm)
/-- The single years from -3000 on, n of them, that are among those of spans. -/
def hasS2 (xs : List SpanV) (y : Int) : Bool := xs.any fun x => decide (x.from_ ≤ y) && decide (y ≤ x.to_)
theorem hasS2_iff {xs : List SpanV} {y : Int} : hasS2 xs y = true ↔ covers xs y := by
  simp only [hasS2, List.any_eq_true, Bool.and_eq_true, decide_eq_true_eq]; rfl
def yearsL (xs : List SpanV) (n : Nat) : List SpanV := ((List.range n).filter fun (i : Nat) => hasS2 xs ((i : Int) - 3000)).map fun (i : Nat) => (⟨(i : Int) - 3000, (i : Int) - 3000⟩ : SpanV)
theorem years_zero (xs : List SpanV) : yearsL xs 0 = [] := rfl
theorem years_in {xs : List SpanV} {n : Nat} (h : hasS2 xs ((n : Int) - 3000) = true) : yearsL xs (n + 1) = yearsL xs n ++ [⟨(n : Int) - 3000, (n : Int) - 3000⟩] := by
  simp only [yearsL, List.range_succ, List.filter_append, List.map_append]
  simp [h]
theorem years_out {xs : List SpanV} {n : Nat} (h : hasS2 xs ((n : Int) - 3000) = false) : yearsL xs (n + 1) = yearsL xs n := by
  simp only [yearsL, List.range_succ, List.filter_append, List.map_append]
  simp [h]
theorem years_mem {xs : List SpanV} {n : Nat} {z : SpanV} : z ∈ yearsL xs n ↔ ∃ i : Nat, i < n ∧ hasS2 xs ((i : Int) - 3000) = true ∧ z = ⟨(i : Int) - 3000, (i : Int) - 3000⟩ := by
  simp only [yearsL, List.mem_map, List.mem_filter, List.mem_range]
  constructor
  · rintro ⟨i, ⟨h1, h2⟩, rfl⟩; exact ⟨i, h1, h2, rfl⟩
  · rintro ⟨i, h1, h2, rfl⟩; exact ⟨i, ⟨h1, h2⟩, rfl⟩
theorem years_sorted (xs : List SpanV) (n : Nat) : (yearsL xs n).Pairwise fun a b => a.from_ ≤ b.from_ := by
  induction n with
  | zero => exact List.Pairwise.nil
  | succ n ih =>
    cases h : hasS2 xs ((n : Int) - 3000)
    · rw [years_out h]; exact ih
    · rw [years_in h, List.pairwise_append]
      refine ⟨ih, List.pairwise_singleton _ _, fun a ha b hb => ?_⟩
      obtain ⟨i, hi, _, rfl⟩ := years_mem.1 ha
      rw [List.mem_singleton.1 hb]
      simp only; omega
/-- What is built year by year ends before the year at hand. -/
theorem years_last (xs : List SpanV) (n : Nat) : ∀ z ∈ unionS (yearsL xs n), z.from_ ≤ z.to_ ∧ -3000 ≤ z.from_ ∧ z.to_ < (n : Int) - 3000 := by
  obtain ⟨h1, h2⟩ := union_law (years_sorted xs n) (fun z hz => by obtain ⟨i, _, _, rfl⟩ := years_mem.1 hz; exact Int.le_refl _)
  intro z hz
  have hv := h1.1 z hz
  obtain ⟨u, hu, c1, c2⟩ := (h2 z.to_).1 ⟨z, hz, hv, Int.le_refl _⟩
  obtain ⟨u2, hu2, d1, d2⟩ := (h2 z.from_).1 ⟨z, hz, Int.le_refl _, hv⟩
  obtain ⟨i, hi, _, rfl⟩ := years_mem.1 hu
  obtain ⟨i2, hi2, _, rfl⟩ := years_mem.1 hu2
  simp only at c1 c2 d1 d2
  exact ⟨hv, by omega, by omega⟩
/-- The law: the union of spans within the years is what is built year by year. -/
theorem years_union {zs xs : List SpanV} (hs : zs.Pairwise fun a b => a.from_ ≤ b.from_) (hv : ∀ z ∈ zs, z.from_ ≤ z.to_ ∧ -3000 ≤ z.from_ ∧ z.to_ ≤ 3000) (hm : ∀ z, z ∈ zs ↔ z ∈ xs) : unionS zs = unionS (yearsL xs 6001) := by
  refine union_same hs (years_sorted _ _) (fun z hz => (hv z hz).1) (fun z hz => by obtain ⟨i, _, _, rfl⟩ := years_mem.1 hz; exact Int.le_refl _) fun y => ?_
  have hc : covers zs y ↔ covers xs y := ⟨fun ⟨z, hz, h⟩ => ⟨z, (hm z).1 hz, h⟩, fun ⟨z, hz, h⟩ => ⟨z, (hm z).2 hz, h⟩⟩
  rw [hc]
  constructor
  · intro c
    obtain ⟨z, hz, h⟩ := hc.2 c
    have := hv z hz
    refine ⟨⟨y, y⟩, years_mem.2 ⟨(y + 3000).toNat, by omega, ?_, ?_⟩, Int.le_refl _, Int.le_refl _⟩
    · rw [show (((y + 3000).toNat : Nat) : Int) - 3000 = y by omega]; exact hasS2_iff.2 c
    · rw [show (((y + 3000).toNat : Nat) : Int) - 3000 = y by omega]
  · rintro ⟨z, hz, c1, c2⟩
    obtain ⟨i, hi, hh, rfl⟩ := years_mem.1 hz
    simp only at c1 c2
    obtain rfl : y = (i : Int) - 3000 := by omega
    exact hasS2_iff.1 hh

end Go.Proofs.YteencdgaldhanaaGreatDoor

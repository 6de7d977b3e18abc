/-
  Order: a list sorted with each once is determined by its members; insertion at its place; sorting and leaving out neighbours that are equal.
-/
import Derived.Test.YtdicjpkcgeofjaaGreatDoorS
import Derived.Lib.OwnBridge
import Derived.Sort.OwnSorted
import Derived.Lib.SlicesCompact
namespace Go.Proofs.YtdicjpkcgeofjaaGreatDoor
open Go.RowKit

theorem sorted_ext {α : Type} {r : α → α → Prop} (irr : ∀ a, ¬ r a a) (tr : ∀ a b c, r a b → r b c → r a c) : ∀ {xs ys : List α}, xs.Pairwise r → ys.Pairwise r → (∀ x, x ∈ xs ↔ x ∈ ys) → xs = ys
  | [], [], _, _, _ => rfl
  | [], y :: ys, _, _, h => by have := (h y).2 (List.mem_cons_self ..); simp at this
  | x :: xs, [], _, _, h => by have := (h x).1 (List.mem_cons_self ..); simp at this
  | x :: xs, y :: ys, h1, h2, h => by
    have p1 := List.pairwise_cons.1 h1
    have p2 := List.pairwise_cons.1 h2
    have e : x = y := by
      rcases List.mem_cons.1 ((h x).1 (List.mem_cons_self ..)) with e | m
      · exact e
      · rcases List.mem_cons.1 ((h y).2 (List.mem_cons_self ..)) with e | m2
        · exact e.symm
        · exact absurd (tr _ _ _ (p2.1 x m) (p1.1 y m2)) (irr _)
    subst e
    rw [sorted_ext irr tr p1.2 p2.2 fun z => ?_]
    constructor
    · intro hz
      rcases List.mem_cons.1 ((h z).1 (List.mem_cons_of_mem _ hz)) with e | m
      · subst e; exact absurd (p1.1 _ hz) (irr _)
      · exact m
    · intro hz
      rcases List.mem_cons.1 ((h z).2 (List.mem_cons_of_mem _ hz)) with e | m
      · subst e; exact absurd (p2.1 _ hz) (irr _)
      · exact m

theorem compactUpTo_sorted {α : Type} [Inhabited α] [DecidableEq α] {r : α → α → Prop} (tr : ∀ a b c, r a b → r b c → r a c) (d : Array α) (h : ∀ i j, i < j → j < d.size → r d[i]! d[j]! ∨ d[i]! = d[j]!) :
    ∀ m, m ≤ d.size → (Lib.compactUpTo d m).Pairwise r ∧ (∀ x ∈ Lib.compactUpTo d m, 0 < m ∧ (r x d[m - 1]! ∨ x = d[m - 1]!)) ∧ ∀ x, x ∈ Lib.compactUpTo d m ↔ ∃ j, j < m ∧ d[j]! = x
  | 0, _ => by simp [Lib.compactUpTo]
  | m + 1, hm => by
    obtain ⟨i1, i2, i3⟩ := compactUpTo_sorted tr d h m (by omega)
    rw [Lib.compactUpTo_succ]
    by_cases hk : Lib.keeps d m = true
    · rw [if_pos hk]
      have hlt : ∀ x ∈ Lib.compactUpTo d m, r x d[m]! := by
        intro x hx
        obtain ⟨h0, hc⟩ := i2 x hx
        have hs := h (m - 1) m (by omega) (by omega)
        have hne : d[m]! ≠ d[m - 1]! := by
          simp only [Lib.keeps, decide_eq_true_eq] at hk
          rcases hk with e | e
          · omega
          · exact e
        rcases hs with hs | hs
        · rcases hc with hc | hc
          · exact tr _ _ _ hc hs
          · rw [hc]; exact hs
        · exact absurd hs.symm hne
      refine ⟨?_, ?_, ?_⟩
      · rw [List.pairwise_append]
        exact ⟨i1, List.pairwise_singleton _ _, fun x hx y hy => by rw [List.mem_singleton.1 hy]; exact hlt x hx⟩
      · intro x hx
        refine ⟨by omega, ?_⟩
        rw [Nat.add_sub_cancel]
        rcases List.mem_append.1 hx with hx | hx
        · exact .inl (hlt x hx)
        · exact .inr (List.mem_singleton.1 hx)
      · intro x
        rw [List.mem_append, i3, List.mem_singleton]
        constructor
        · rintro (⟨j, hj, e⟩ | e)
          · exact ⟨j, by omega, e⟩
          · exact ⟨m, by omega, e.symm⟩
        · rintro ⟨j, hj, e⟩
          by_cases e2 : j = m
          · exact .inr (by rw [← e, e2])
          · exact .inl ⟨j, by omega, e⟩
    · rw [if_neg hk, List.append_nil]
      have hk2 : m ≠ 0 ∧ d[m]! = d[m - 1]! := by
        simp only [Lib.keeps, decide_eq_true_eq] at hk
        exact ⟨fun e => hk (.inl e), Classical.byContradiction fun e => hk (.inr e)⟩
      refine ⟨i1, fun x hx => ?_, fun x => ?_⟩
      · rw [Nat.add_sub_cancel, hk2.2]
        exact ⟨by omega, (i2 x hx).2⟩
      · rw [i3]
        constructor
        · rintro ⟨j, hj, e⟩; exact ⟨j, by omega, e⟩
        · rintro ⟨j, hj, e⟩
          by_cases e2 : j = m
          · exact ⟨m - 1, by omega, by rw [← hk2.2, ← e2]; exact e⟩
          · exact ⟨j, by omega, e⟩

theorem compact_sorted {α : Type} [Inhabited α] [DecidableEq α] {r : α → α → Prop} (tr : ∀ a b c, r a b → r b c → r a c) (zs : List α) (h : zs.Pairwise fun a b => r a b ∨ a = b) : (Lib.compact zs).Pairwise r ∧ ∀ x, x ∈ Lib.compact zs ↔ x ∈ zs := by
  have hg : ∀ i j, i < j → j < zs.toArray.size → r zs.toArray[i]! zs.toArray[j]! ∨ zs.toArray[i]! = zs.toArray[j]! := by
    intro i j hij hj
    have hj' : j < zs.length := by simpa using hj
    have := List.pairwise_iff_getElem.1 h i j (by omega) hj' hij
    simpa [getElem!_pos, hj', show i < zs.length by omega] using this
  obtain ⟨h1, _, h3⟩ := compactUpTo_sorted tr zs.toArray hg zs.length (by simp)
  refine ⟨h1, fun x => ?_⟩
  rw [Lib.compact, h3]
  constructor
  · rintro ⟨j, hj, rfl⟩
    simp [getElem!_pos, hj]
  · intro hx
    obtain ⟨j, hj, rfl⟩ := List.getElem_of_mem hx
    exact ⟨j, hj, by simp [getElem!_pos, hj]⟩

/-- One more at its place, each once. -/
def insR {α : Type} [DecidableEq α] (lt : α → α → Bool) : List α → α → List α
  | [], s => [s]
  | x :: xs, s => if lt x s = true then x :: insR lt xs s else if x = s then x :: xs else s :: x :: xs
theorem insR_mem {α : Type} [DecidableEq α] {lt : α → α → Bool} : ∀ {xs : List α} {s z : α}, z ∈ insR lt xs s ↔ z = s ∨ z ∈ xs
  | [], s, z => by simp [insR]
  | x :: xs, s, z => by
    rw [insR]
    by_cases h : lt x s = true
    · rw [if_pos h, List.mem_cons, insR_mem, List.mem_cons]
      constructor <;> rintro (h | h | h) <;> simp [h]
    · rw [if_neg h]
      by_cases e : x = s
      · rw [if_pos e]
        subst e
        simp
      · rw [if_neg e]; simp
theorem insR_sorted {α : Type} [DecidableEq α] {lt : α → α → Bool} (tr : ∀ a b c, lt a b = true → lt b c = true → lt a c = true) (tot : ∀ a b, lt a b = true ∨ a = b ∨ lt b a = true) :
    ∀ {xs : List α} {s : α}, xs.Pairwise (fun a b => lt a b = true) → (insR lt xs s).Pairwise fun a b => lt a b = true
  | [], s, _ => by simp [insR]
  | x :: xs, s, h => by
    have p := List.pairwise_cons.1 h
    rw [insR]
    by_cases hl : lt x s = true
    · rw [if_pos hl, List.pairwise_cons]
      refine ⟨fun z hz => ?_, insR_sorted tr tot p.2⟩
      rcases insR_mem.1 hz with e | m
      · rw [e]; exact hl
      · exact p.1 z m
    · rw [if_neg hl]
      by_cases e : x = s
      · rw [if_pos e]; exact h
      · rw [if_neg e, List.pairwise_cons]
        have hs : lt s x = true := by
          rcases tot x s with h1 | h1 | h1
          · exact absurd h1 hl
          · exact absurd h1 e
          · exact h1
        refine ⟨fun z hz => ?_, h⟩
        rcases List.mem_cons.1 hz with e2 | m
        · rw [e2]; exact hs
        · exact tr _ _ _ hs (p.1 z m)
/-- Where it lies, read off the list. -/
theorem insR_at {α : Type} [DecidableEq α] {lt : α → α → Bool} : ∀ {xs : List α} {s : α} (k : Nat), k ≤ xs.length → (∀ j x, j < k → xs[j]? = some x → lt x s = true) → (∀ x, xs[k]? = some x → lt x s = false) →
    insR lt xs s = if xs[k]? = some s then xs else xs.take k ++ s :: xs.drop k
  | [], s, k, hk, _, _ => by
    have : k = 0 := by simpa using hk
    subst this; simp [insR]
  | x :: xs, s, 0, _, _, h2 => by
    have hx := h2 x rfl
    rw [insR, if_neg (by rw [hx]; decide)]
    by_cases e : x = s
    · simp [e]
    · simp [e]
  | x :: xs, s, k + 1, hk, h1, h2 => by
    have hx := h1 0 x (by omega) rfl
    rw [insR, if_pos hx, insR_at k (by simpa using hk) (fun j y hj hy => h1 (j + 1) y (by omega) (by simpa using hy)) (fun y hy => h2 y (by simpa using hy))]
    simp only [List.getElem?_cons_succ, List.take_succ_cons, List.drop_succ_cons]
    by_cases e : xs[k]? = some s
    · rw [if_pos e, if_pos e]
    · rw [if_neg e, if_neg e, List.cons_append]
theorem insR_len {α : Type} [DecidableEq α] {lt : α → α → Bool} : ∀ {xs : List α} {s : α}, (insR lt xs s).length ≤ xs.length + 1
  | [], s => by simp [insR]
  | x :: xs, s => by
    rw [insR]
    split
    · have := insR_len (lt := lt) (xs := xs) (s := s); simp; omega
    · split <;> simp

/-- One string ahead of another. -/
def ltS (a b : ByteArray) : Bool := decide (a.data.toList < b.data.toList)
theorem ltS_irr (a : ByteArray) : ¬ ltS a a = true := by
  rw [ltS, decide_eq_true_eq]; exact List.lt_irrefl _
theorem ltS_tr (a b c : ByteArray) (h1 : ltS a b = true) (h2 : ltS b c = true) : ltS a c = true := by
  rw [ltS, decide_eq_true_eq] at *; exact List.lt_trans h1 h2
theorem ltS_tot (a b : ByteArray) : ltS a b = true ∨ a = b ∨ ltS b a = true := by
  by_cases h1 : ltS a b = true
  · exact .inl h1
  · by_cases h2 : ltS b a = true
    · exact .inr (.inr h2)
    · rw [ltS, decide_eq_true_eq] at h1 h2
      exact .inr (.inl (eqS.1 (List.le_antisymm (List.not_lt.1 h2) (List.not_lt.1 h1))))
theorem bytesLess_dec : ∀ x y : List UInt8, Op.bytesLess x y = decide (x < y)
  | [], [] => by simp [Op.bytesLess]
  | _ :: _, [] => by simp [Op.bytesLess]
  | [], _ :: _ => by simp [Op.bytesLess]
  | a :: x, b :: y => by
    rw [Op.bytesLess, bytesLess_dec x y, Bool.eq_iff_iff]
    simp only [Bool.or_eq_true, Bool.and_eq_true, decide_eq_true_eq, beq_iff_eq, List.cons_lt_cons_iff]
theorem ltS_less (a b : ByteArray) : Op.bytesLess a.toList b.toList = ltS a b := by rw [bytesLess_dec, ltS, ByteArray.toList_eq, ByteArray.toList_eq]
def insS (xs : List ByteArray) (s : ByteArray) : List ByteArray := insR ltS xs s
/-- All of a list in order, each once. -/
def sortU (xs : List ByteArray) : List ByteArray := xs.foldl insS []
theorem foldl_insS_mem {xs : List ByteArray} {acc : List ByteArray} {z : ByteArray} : z ∈ xs.foldl insS acc ↔ z ∈ acc ∨ z ∈ xs := by
  induction xs generalizing acc with
  | nil => simp
  | cons x xs ih =>
    rw [List.foldl_cons, ih, insS, insR_mem, List.mem_cons]
    constructor
    · rintro ((h | h) | h) <;> simp [h]
    · rintro (h | h | h) <;> simp [h]
theorem foldl_insS_sorted {xs : List ByteArray} {acc : List ByteArray} (h : acc.Pairwise fun a b => ltS a b = true) : (xs.foldl insS acc).Pairwise fun a b => ltS a b = true := by
  induction xs generalizing acc with
  | nil => exact h
  | cons x xs ih => rw [List.foldl_cons]; exact ih (insR_sorted ltS_tr ltS_tot h)
theorem sortU_mem {xs : List ByteArray} {z : ByteArray} : z ∈ sortU xs ↔ z ∈ xs := by rw [sortU, foldl_insS_mem]; simp
theorem sortU_sorted (xs : List ByteArray) : (sortU xs).Pairwise fun a b => ltS a b = true := foldl_insS_sorted List.Pairwise.nil
theorem sortU_snoc (xs : List ByteArray) (s : ByteArray) : sortU (xs ++ [s]) = insS (sortU xs) s := by rw [sortU, List.foldl_append]; rfl
theorem sortU_len (xs : List ByteArray) : (sortU xs).length ≤ xs.length := by
  have : ∀ (xs acc : List ByteArray), (xs.foldl insS acc).length ≤ acc.length + xs.length := by
    intro xs
    induction xs with
    | nil => simp
    | cons x xs ih =>
      intro acc
      rw [List.foldl_cons]
      have h1 := ih (insS acc x)
      have h2 : (insS acc x).length ≤ acc.length + 1 := insR_len
      rw [List.length_cons]; omega
  have := this xs []
  rw [List.length_nil, Nat.zero_add] at this
  exact this
theorem sortU_keys (xs : List ByteArray) : Lib.compact ((xs.map (·.data.toList)).mergeSort fun x y => decide (x ≤ y)) = (sortU xs).map (·.data.toList) := by
  have hs : ((xs.map (·.data.toList)).mergeSort fun x y => decide (x ≤ y)).Pairwise fun a b => a < b ∨ a = b := by
    refine (List.pairwise_mergeSort (le := fun x y => decide (x ≤ y)) ?_ ?_ _).imp ?_
    · intro a b c h1 h2
      rw [decide_eq_true_eq] at *
      exact List.le_trans h1 h2
    · intro a b
      rw [Bool.or_eq_true, decide_eq_true_eq, decide_eq_true_eq]
      exact List.le_total a b
    · intro a b h
      rw [decide_eq_true_eq] at h
      by_cases hl : a < b
      · exact .inl hl
      · exact .inr (List.le_antisymm h (List.not_lt.1 hl))
  have hc := compact_sorted (r := fun a b : List UInt8 => a < b) (fun a b c => List.lt_trans) _ hs
  refine sorted_ext (r := fun a b : List UInt8 => a < b) (fun a => List.lt_irrefl a) (fun a b c => List.lt_trans) hc.1 ?_ fun z => ?_
  · rw [List.pairwise_map]
    exact (sortU_sorted xs).imp fun h => by rw [ltS, decide_eq_true_eq] at h; exact h
  · rw [hc.2, List.mem_mergeSort, List.mem_map, List.mem_map]
    constructor
    · rintro ⟨s, hs, e⟩; exact ⟨s, sortU_mem.2 hs, e⟩
    · rintro ⟨s, hs, e⟩; exact ⟨s, sortU_mem.1 hs, e⟩


def pickL {α β : Type} (p : α → Bool) (f : α → β) (xs : List α) (k : Nat) : List β := ((xs.take k).filter p).map f
theorem pick_zero {α β : Type} (p : α → Bool) (f : α → β) (xs : List α) : pickL p f xs 0 = [] := by simp [pickL]
theorem pick_out {α β : Type} {p : α → Bool} {f : α → β} {xs : List α} {k : Nat} {x : α} (hk : xs[k]? = some x) (h : p x = false) : pickL p f xs (k + 1) = pickL p f xs k := by
  obtain ⟨hlt, rfl⟩ := List.getElem?_eq_some_iff.1 hk
  rw [pickL, pickL, List.take_succ_eq_append_getElem hlt, List.filter_append, List.map_append]
  simp [h]
theorem pick_in {α β : Type} {p : α → Bool} {f : α → β} {xs : List α} {k : Nat} {x : α} (hk : xs[k]? = some x) (h : p x = true) : pickL p f xs (k + 1) = pickL p f xs k ++ [f x] := by
  obtain ⟨hlt, rfl⟩ := List.getElem?_eq_some_iff.1 hk
  rw [pickL, pickL, List.take_succ_eq_append_getElem hlt, List.filter_append, List.map_append]
  simp [h]
theorem pick_len {α β : Type} (p : α → Bool) (f : α → β) (xs : List α) (k : Nat) : (pickL p f xs k).length ≤ k := by
  rw [pickL, List.length_map]
  exact Nat.le_trans (List.length_filter_le _ _) (by simp; omega)
theorem pick_mem {α β : Type} {p : α → Bool} {f : α → β} {xs : List α} {k : Nat} {z : β} (h : z ∈ pickL p f xs k) : ∃ x ∈ xs, p x = true ∧ f x = z := by
  rw [pickL, List.mem_map] at h
  obtain ⟨x, hx, rfl⟩ := h
  exact ⟨x, List.mem_of_mem_take (List.mem_filter.1 hx).1, (List.mem_filter.1 hx).2, rfl⟩


/-- A list of texts and a code. -/
def RetTC (w : World) (ss : List ByteArray) (code : Int) (e : Ending) (w' : World) : Prop := ∃ v, e = .returned (.tuple #[v, .int .i64 code]) ∧ ∃ a n c, v = .slice a n c ∧ n ≤ 1048576 ∧ OwnS w' w.heap.size a n c ss ∧ Ext w w'
theorem RetTC.nil {w : World} {code : Int} {w' : World} (h : Ext w w') : RetTC w [] code (.returned (.tuple #[.slice none 0 0, .int .i64 code])) w' := ⟨_, rfl, none, 0, 0, rfl, by decide, ⟨OwnG.isNil _ _ _ _, by simp⟩, h⟩

end Go.Proofs.YtdicjpkcgeofjaaGreatDoor

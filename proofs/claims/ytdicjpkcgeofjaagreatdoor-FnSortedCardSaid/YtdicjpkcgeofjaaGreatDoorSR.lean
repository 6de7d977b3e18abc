/-
  Sorting by insertion from behind, comparisons of lists of numbers, keys (plain).
-/
import Derived.Test.YtdicjpkcgeofjaaGreatDoorOR
import Derived.Test.YtdicjpkcgeofjaaGreatDoorM0
namespace Go.Proofs.YtdicjpkcgeofjaaGreatDoor

/-! Lists of numbers compared. -/
def cmpI : List Int → List Int → Int
  | [], [] => 0
  | [], _ :: _ => -1
  | _ :: _, [] => 1
  | x :: xs, y :: ys => if x < y then -1 else if y < x then 1 else cmpI xs ys
def cmpW : List (List Int) → List (List Int) → Int
  | [], [] => 0
  | [], _ :: _ => -1
  | _ :: _, [] => 1
  | x :: xs, y :: ys => if cmpI x y = 0 then cmpW xs ys else cmpI x y
theorem cmpI_bd : ∀ a b, -1 ≤ cmpI a b ∧ cmpI a b ≤ 1
  | [], [] => by simp [cmpI]
  | [], _ :: _ => by simp [cmpI]
  | _ :: _, [] => by simp [cmpI]
  | x :: xs, y :: ys => by
    have ih := cmpI_bd xs ys
    rw [cmpI]
    split
    · omega
    · split
      · omega
      · exact ih
theorem cmpW_bd : ∀ a b, -1 ≤ cmpW a b ∧ cmpW a b ≤ 1
  | [], [] => by simp [cmpW]
  | [], _ :: _ => by simp [cmpW]
  | _ :: _, [] => by simp [cmpW]
  | x :: xs, y :: ys => by
    have ih := cmpW_bd xs ys
    rw [cmpW]
    split
    · exact ih
    · exact cmpI_bd x y
theorem cmpI_anti : ∀ a b, cmpI b a = - cmpI a b
  | [], [] => by simp [cmpI]
  | [], _ :: _ => by simp [cmpI]
  | _ :: _, [] => by simp [cmpI]
  | x :: xs, y :: ys => by
    have ih := cmpI_anti xs ys
    rw [cmpI, cmpI]
    by_cases h1 : x < y
    · rw [if_pos h1, if_neg (by omega), if_pos h1]; rfl
    · by_cases h2 : y < x
      · rw [if_pos h2, if_neg h1, if_pos h2]
      · rw [if_neg h2, if_neg h1, if_neg h1, if_neg h2, ih]
theorem cmpW_anti : ∀ a b, cmpW b a = - cmpW a b
  | [], [] => by simp [cmpW]
  | [], _ :: _ => by simp [cmpW]
  | _ :: _, [] => by simp [cmpW]
  | x :: xs, y :: ys => by
    have ih := cmpW_anti xs ys
    have h := cmpI_anti x y
    rw [cmpW, cmpW, h]
    by_cases h1 : cmpI x y = 0
    · rw [if_pos (by omega), if_pos h1, ih]
    · rw [if_neg (by omega), if_neg h1]
theorem cmpI_eq : ∀ {a b : List Int}, cmpI a b = 0 → a = b
  | [], [], _ => rfl
  | [], _ :: _, h => by simp [cmpI] at h
  | _ :: _, [], h => by simp [cmpI] at h
  | x :: xs, y :: ys, h => by
    rw [cmpI] at h
    by_cases h1 : x < y
    · rw [if_pos h1] at h; exact absurd h (by decide)
    · rw [if_neg h1] at h
      by_cases h2 : y < x
      · rw [if_pos h2] at h; exact absurd h (by decide)
      · rw [if_neg h2] at h
        obtain rfl : x = y := by omega
        rw [cmpI_eq h]
/-- The walk's view: equal up to k, then decided. -/
theorem cmpI_at {a b : List Int} (k : Nat) (h : ∀ j, j < k → a[j]? = b[j]?) (hk : k ≤ a.length) (hk2 : k ≤ b.length) : cmpI a b = cmpI (a.drop k) (b.drop k) := by
  induction k generalizing a b with
  | zero => simp
  | succ k ih =>
    match a, b, hk, hk2 with
    | x :: xs, y :: ys, hk, hk2 =>
      have h0 : x = y := by simpa using h 0 (by omega)
      subst h0
      rw [cmpI, if_neg (by omega), if_neg (by omega), List.drop_succ_cons, List.drop_succ_cons]
      exact ih (fun j hj => by simpa using h (j + 1) (by omega)) (by simpa using hk) (by simpa using hk2)
theorem cmpW_at {a b : List (List Int)} (k : Nat) (h : ∀ j, j < k → a[j]? = b[j]?) (hk : k ≤ a.length) (hk2 : k ≤ b.length) : cmpW a b = cmpW (a.drop k) (b.drop k) := by
  induction k generalizing a b with
  | zero => simp
  | succ k ih =>
    match a, b, hk, hk2 with
    | x :: xs, y :: ys, hk, hk2 =>
      have h0 : x = y := by simpa using h 0 (by omega)
      subst h0
      have hc : cmpI x x = 0 := by have := cmpI_anti x x; omega
      rw [cmpW, if_pos hc, List.drop_succ_cons, List.drop_succ_cons]
      exact ih (fun j hj => by simpa using h (j + 1) (by omega)) (by simpa using hk) (by simpa using hk2)
theorem cmpI_lt {a b : List Int} {k : Nat} (h : ∀ j, j < k → a[j]? = b[j]?) (ha : k < a.length) (hb : k < b.length) (hx : nth a k < nth b k) : cmpI a b = -1 := by
  rw [cmpI_at k h (by omega) (by omega), List.drop_eq_getElem_cons ha, List.drop_eq_getElem_cons hb, cmpI, if_pos (by rw [nth_eq ha, nth_eq hb] at hx; exact hx)]
theorem cmpI_gt {a b : List Int} {k : Nat} (h : ∀ j, j < k → a[j]? = b[j]?) (ha : k < a.length) (hb : k < b.length) (hx : nth b k < nth a k) : cmpI a b = 1 := by
  rw [nth_eq ha, nth_eq hb] at hx
  rw [cmpI_at k h (by omega) (by omega), List.drop_eq_getElem_cons ha, List.drop_eq_getElem_cons hb, cmpI, if_neg (by omega), if_pos hx]
theorem cmpI_short {a b : List Int} {k : Nat} (h : ∀ j, j < k → a[j]? = b[j]?) (ha : a.length = k) (hb : k < b.length) : cmpI a b = -1 := by
  rw [cmpI_at k h (by omega) (by omega), List.drop_of_length_le (by omega), List.drop_eq_getElem_cons hb, cmpI]
theorem cmpI_long {a b : List Int} {k : Nat} (h : ∀ j, j < k → a[j]? = b[j]?) (ha : k < a.length) (hb : b.length = k) : cmpI a b = 1 := by
  rw [cmpI_at k h (by omega) (by omega), List.drop_of_length_le (l := b) (by omega), List.drop_eq_getElem_cons ha, cmpI]
theorem cmpI_same {a b : List Int} {k : Nat} (h : ∀ j, j < k → a[j]? = b[j]?) (ha : a.length = k) (hb : b.length = k) : cmpI a b = 0 := by
  rw [cmpI_at k h (by omega) (by omega), List.drop_of_length_le (by omega), List.drop_of_length_le (by omega), cmpI]
/-- An element of a list of lists. -/
def nthW (zss : List (List Int)) (k : Nat) : List Int := zss.getD k []
theorem nthW_eq {zss : List (List Int)} {k : Nat} (h : k < zss.length) : nthW zss k = zss[k] := by simp [nthW, h]
theorem cmpW_ne {a b : List (List Int)} {k : Nat} (h : ∀ j, j < k → a[j]? = b[j]?) (ha : k < a.length) (hb : k < b.length) (hx : cmpI (nthW a k) (nthW b k) ≠ 0) : cmpW a b = cmpI (nthW a k) (nthW b k) := by
  rw [nthW_eq ha, nthW_eq hb] at hx ⊢
  rw [cmpW_at k h (by omega) (by omega), List.drop_eq_getElem_cons ha, List.drop_eq_getElem_cons hb, cmpW, if_neg hx]
theorem cmpW_short {a b : List (List Int)} {k : Nat} (h : ∀ j, j < k → a[j]? = b[j]?) (ha : a.length = k) (hb : k < b.length) : cmpW a b = -1 := by
  rw [cmpW_at k h (by omega) (by omega), List.drop_of_length_le (by omega), List.drop_eq_getElem_cons hb, cmpW]
theorem cmpW_long {a b : List (List Int)} {k : Nat} (h : ∀ j, j < k → a[j]? = b[j]?) (ha : k < a.length) (hb : b.length = k) : cmpW a b = 1 := by
  rw [cmpW_at k h (by omega) (by omega), List.drop_of_length_le (l := b) (by omega), List.drop_eq_getElem_cons ha, cmpW]
theorem cmpW_same {a b : List (List Int)} {k : Nat} (h : ∀ j, j < k → a[j]? = b[j]?) (ha : a.length = k) (hb : b.length = k) : cmpW a b = 0 := by
  rw [cmpW_at k h (by omega) (by omega), List.drop_of_length_le (by omega), List.drop_of_length_le (by omega), cmpW]
theorem eq_step {α : Type} {a b : List α} {k : Nat} (h : ∀ j, j < k → a[j]? = b[j]?) (hk : a[k]? = b[k]?) : ∀ j, j < k + 1 → a[j]? = b[j]? := fun j hj => by
  by_cases e : j = k
  · rw [e]; exact hk
  · exact h j (by omega)

/-! Insertion from behind. -/
section
variable {α : Type} (c : α → α → Int)
/-- Where x comes to stand among the first k: ahead of all behind which it must not stand. -/
def insAt (out : List α) (x : α) : Nat → Nat
  | 0 => 0
  | k + 1 => match out[k]? with | some y => if c x y < 0 then insAt out x k else k + 1 | none => k + 1
def insC (out : List α) (x : α) : List α := out.take (insAt c out x out.length) ++ x :: out.drop (insAt c out x out.length)
def sortC (ls : List α) : List α := ls.foldl (insC c) []
def sortedC : List α → Bool
  | [] => true
  | [_] => true
  | x :: y :: r => decide (c x y ≤ 0) && sortedC (y :: r)
variable {c}
theorem insAt_le (out : List α) (x : α) : ∀ k, insAt c out x k ≤ k
  | 0 => Nat.le_refl _
  | k + 1 => by
    have := insAt_le out x k
    rw [insAt]
    split
    · split <;> omega
    · omega
theorem insAt_less {out : List α} {x : α} {k : Nat} (hk : k < out.length) (h : c x out[k] < 0) : insAt c out x (k + 1) = insAt c out x k := by
  rw [insAt, List.getElem?_eq_getElem hk]
  simp [h]
theorem insAt_stop {out : List α} {x : α} {k : Nat} (hk : k < out.length) (h : ¬ c x out[k] < 0) : insAt c out x (k + 1) = k + 1 := by
  rw [insAt, List.getElem?_eq_getElem hk]
  simp [h]
theorem insC_len (out : List α) (x : α) : (insC c out x).length = out.length + 1 := by
  have := insAt_le (c := c) out x out.length
  simp only [insC, List.length_append, List.length_take, List.length_cons, List.length_drop]
  omega
theorem sortC_len' (ls acc : List α) : (ls.foldl (insC c) acc).length = acc.length + ls.length := by
  induction ls generalizing acc with
  | nil => simp
  | cons x xs ih => rw [List.foldl_cons, ih, insC_len, List.length_cons]; omega
theorem sortC_len (ls : List α) : (sortC c ls).length = ls.length := by rw [sortC, sortC_len']; simp
theorem sortC_snoc (ls : List α) (x : α) : sortC c (ls ++ [x]) = insC c (sortC c ls) x := by rw [sortC, List.foldl_append]; rfl
theorem insC_mem {out : List α} {x z : α} : z ∈ insC c out x ↔ z = x ∨ z ∈ out := by
  rw [insC, List.mem_append, List.mem_cons]
  have e := List.take_append_drop (insAt c out x out.length) out
  constructor
  · rintro (h | h | h)
    · exact .inr (List.mem_of_mem_take h)
    · exact .inl h
    · exact .inr (List.mem_of_mem_drop h)
  · rintro (h | h)
    · exact .inr (.inl h)
    · rw [← e, List.mem_append] at h
      rcases h with h | h
      · exact .inl h
      · exact .inr (.inr h)
theorem sortC_mem' {ls acc : List α} {z : α} : z ∈ ls.foldl (insC c) acc ↔ z ∈ acc ∨ z ∈ ls := by
  induction ls generalizing acc with
  | nil => simp
  | cons x xs ih =>
    rw [List.foldl_cons, ih, insC_mem, List.mem_cons]
    constructor
    · rintro ((h | h) | h)
      · exact .inr (.inl h)
      · exact .inl h
      · exact .inr (.inr h)
    · rintro (h | h | h)
      · exact .inl (.inr h)
      · exact .inl (.inl h)
      · exact .inr h
theorem sortC_mem {ls : List α} {z : α} : z ∈ sortC c ls ↔ z ∈ ls := by rw [sortC, sortC_mem']; simp
theorem sortedC_iff : ∀ {ls : List α}, sortedC c ls = true ↔ ∀ k (h : k + 1 < ls.length), c ls[k] ls[k + 1] ≤ 0
  | [] => by simp [sortedC]
  | [_] => by simp [sortedC]
  | x :: y :: r => by
    rw [sortedC, Bool.and_eq_true, decide_eq_true_eq, sortedC_iff]
    constructor
    · rintro ⟨h1, h2⟩ k hk
      cases k with
      | zero => exact h1
      | succ k => exact h2 k (by simpa using hk)
    · intro h
      exact ⟨h 0 (by simp), fun k hk => h (k + 1) (by simpa using hk)⟩
/-- All behind the place are greater, the one ahead is not. -/
theorem insAt_spec (out : List α) (x : α) : ∀ k, k ≤ out.length → (∀ j (hj : j < out.length), insAt c out x k ≤ j → j < k → c x out[j] < 0) ∧ (∀ (h : insAt c out x k - 1 < out.length), 0 < insAt c out x k → ¬ c x out[insAt c out x k - 1] < 0)
  | 0, _ => ⟨fun j _ _ h => by omega, fun _ h => by simp [insAt] at h⟩
  | k + 1, hk => by
    obtain ⟨i1, i2⟩ := insAt_spec out x k (by omega)
    by_cases hc : c x (out[k]'(by omega)) < 0
    · rw [insAt_less (by omega) hc]
      refine ⟨fun j hj h1 h2 => ?_, i2⟩
      by_cases e : j = k
      · subst e; exact hc
      · exact i1 j hj h1 (by omega)
    · rw [insAt_stop (by omega) hc]
      exact ⟨fun j hj h1 h2 => by omega, fun h _ => by simpa using hc⟩
theorem insC_sorted (anti : ∀ a b, c b a = - c a b) {out : List α} {x : α} (h : sortedC c out = true) : sortedC c (insC c out x) = true := by
  rw [sortedC_iff] at h ⊢
  obtain ⟨s1, s2⟩ := insAt_spec (c := c) out x out.length (Nat.le_refl _)
  have hle := insAt_le (c := c) out x out.length
  intro k hk
  rw [insC_len] at hk
  have get : ∀ j (hj : j < (insC c out x).length), (insC c out x)[j] = if h1 : j < insAt c out x out.length then out[j]'(by omega) else if h2 : j = insAt c out x out.length then x else out[j - 1]'(by rw [insC_len] at hj; omega) := by
    intro j hj
    rw [insC_len] at hj
    simp only [insC, List.getElem_append, List.length_take, Nat.min_eq_left hle]
    by_cases h1 : j < insAt c out x out.length
    · simp [h1]
    · rw [dif_neg h1, dif_neg h1, List.getElem_cons]
      by_cases h2 : j = insAt c out x out.length
      · rw [dif_pos h2, dif_pos (by omega)]
      · rw [dif_neg h2, dif_neg (by omega), List.getElem_drop]
        congr 1
        omega
  rw [get, get]
  by_cases h1 : k + 1 < insAt c out x out.length
  · rw [dif_pos (by omega), dif_pos h1]
    exact h k (by omega)
  · rw [dif_neg h1]
    by_cases h2 : k + 1 = insAt c out x out.length
    · rw [dif_pos h2, dif_pos (by omega)]
      have := s2 (by omega) (by omega)
      have ha := anti x (out[k]'(by omega))
      have e : out[insAt c out x out.length - 1]'(by omega) = out[k]'(by omega) := by congr 1; omega
      rw [e] at this
      omega
    · rw [dif_neg h2, dif_neg (by omega)]
      by_cases h3 : k = insAt c out x out.length
      · rw [dif_pos h3]
        have := s1 (k + 1 - 1) (by omega) (by omega) (by omega)
        omega
      · rw [dif_neg h3]
        have := h (k - 1) (by omega)
        have e : out[k - 1 + 1]'(by omega) = out[k + 1 - 1]'(by omega) := by congr 1; omega
        rw [e] at this
        exact this
theorem sortC_sorted' (anti : ∀ a b, c b a = - c a b) (ls : List α) : ∀ acc, sortedC c acc = true → sortedC c (ls.foldl (insC c) acc) = true := by
  induction ls with
  | nil => intro acc h; exact h
  | cons x xs ih => intro acc h; exact ih _ (insC_sorted anti h)
theorem sortC_sorted (anti : ∀ a b, c b a = - c a b) (ls : List α) : sortedC c (sortC c ls) = true := sortC_sorted' anti ls [] rfl
end

/-! Keys. -/
def dec2 (z : Int) : List UInt8 := [UInt8.ofNat (48 + (z.toNat + 10) / 10), UInt8.ofNat (48 + (z.toNat + 10) % 10)]
def wordKey (zs : List Int) : List UInt8 := zs.flatMap dec2
def keyL : List (List Int) → List UInt8
  | [] => []
  | [w] => wordKey w
  | w :: v :: r => wordKey w ++ 48 :: keyL (v :: r)
def keyR : List (List Int) → List UInt8
  | [] => []
  | v :: r => 48 :: keyL (v :: r)
theorem keyL_cons (w : List Int) : ∀ r, keyL (w :: r) = wordKey w ++ keyR r
  | [] => by simp [keyL, keyR]
  | v :: r => rfl
theorem keyL_snoc (z : List Int) : ∀ zss, zss ≠ [] → keyL (zss ++ [z]) = keyL zss ++ 48 :: wordKey z
  | [w], _ => rfl
  | w :: v :: r, _ => by
    have ih := keyL_snoc z (v :: r) (by simp)
    rw [List.cons_append, keyL_cons, keyL_cons, List.append_assoc]
    congr 1
    show 48 :: keyL ((v :: r) ++ [z]) = 48 :: keyL (v :: r) ++ 48 :: wordKey z
    rw [ih]; rfl
theorem u8_lt {x y : Nat} (h : x < y) (hy : y < 256) : UInt8.ofNat x < UInt8.ofNat y := by
  rw [UInt8.lt_iff_toNat_lt]
  simp only [UInt8.toNat_ofNat']
  omega
theorem dec2_lt {x y : Int} (hx : 0 ≤ x) (h : x < y) (hy : y < 90) (p q : List UInt8) : dec2 x ++ p < dec2 y ++ q := by
  simp only [dec2, List.cons_append, List.nil_append, List.cons_lt_cons_iff]
  by_cases ht : (x.toNat + 10) / 10 < (y.toNat + 10) / 10
  · exact .inl (u8_lt (by omega) (by omega))
  · have e : (x.toNat + 10) / 10 = (y.toNat + 10) / 10 := by omega
    refine .inr ⟨by rw [e], .inl (u8_lt (by omega) (by omega))⟩
theorem dec2_cancel (x : Int) (p q : List UInt8) : dec2 x ++ p < dec2 x ++ q ↔ p < q := by
  simp only [dec2, List.cons_append, List.nil_append, List.cons_lt_cons_iff]
  simp
theorem keyR_sep (r : List (List Int)) : keyR r = [] ∨ ∃ t, keyR r = 48 :: t := by
  cases r with
  | nil => exact .inl rfl
  | cons v r => exact .inr ⟨_, rfl⟩
theorem word_lt : ∀ {w v : List Int} {p q : List UInt8}, (∀ z ∈ w, 0 ≤ z ∧ z < 90) → (∀ z ∈ v, 0 ≤ z ∧ z < 90) → (p = [] ∨ ∃ t, p = 48 :: t) → cmpI w v < 0 → wordKey w ++ p < wordKey v ++ q
  | [], [], _, _, _, _, _, h => by simp [cmpI] at h
  | _ :: _, [], _, _, _, _, _, h => by simp [cmpI] at h
  | [], y :: ys, p, q, _, hv, hp, _ => by
    have hy := hv y (List.mem_cons_self ..)
    simp only [wordKey, List.flatMap_nil, List.nil_append, List.flatMap_cons, dec2, List.cons_append]
    rcases hp with rfl | ⟨t, rfl⟩
    · exact List.nil_lt_cons _ _
    · rw [List.cons_lt_cons_iff]
      exact .inl (u8_lt (x := 48) (by omega) (by omega))
  | x :: xs, y :: ys, p, q, hw, hv, hp, h => by
    have hx := hw x (List.mem_cons_self ..)
    have hy := hv y (List.mem_cons_self ..)
    have e1 : wordKey (x :: xs) = dec2 x ++ wordKey xs := by simp [wordKey]
    have e2 : wordKey (y :: ys) = dec2 y ++ wordKey ys := by simp [wordKey]
    rw [e1, e2, List.append_assoc, List.append_assoc]
    rw [cmpI] at h
    by_cases h1 : x < y
    · exact dec2_lt hx.1 h1 hy.2 _ _
    · rw [if_neg h1] at h
      by_cases h2 : y < x
      · rw [if_pos h2] at h; exact absurd h (by decide)
      · rw [if_neg h2] at h
        obtain rfl : x = y := by omega
        rw [dec2_cancel]
        exact word_lt (fun z hz => hw z (List.mem_cons_of_mem _ hz)) (fun z hz => hv z (List.mem_cons_of_mem _ hz)) hp h
theorem app_cancel : ∀ (l p q : List UInt8), l ++ p < l ++ q ↔ p < q
  | [], _, _ => Iff.rfl
  | x :: l, p, q => by
    rw [List.cons_append, List.cons_append, List.cons_lt_cons_iff, app_cancel l]
    simp
/-- What is not greater has no greater key. -/
theorem key_le : ∀ {a b : List (List Int)}, (∀ w ∈ a, ∀ z ∈ w, 0 ≤ z ∧ z < 90) → (∀ w ∈ b, ∀ z ∈ w, 0 ≤ z ∧ z < 90) → cmpW a b ≤ 0 → ¬ keyL b < keyL a
  | [], b, _, _, _ => by simp [keyL]
  | _ :: _, [], _, _, h => by simp [cmpW] at h
  | w :: r, v :: q, ha, hb, h => by
    have hw := ha w (List.mem_cons_self ..)
    have hv := hb v (List.mem_cons_self ..)
    rw [keyL_cons, keyL_cons]
    rw [cmpW] at h
    by_cases h0 : cmpI w v = 0
    · rw [if_pos h0] at h
      rw [cmpI_eq h0, app_cancel]
      cases r with
      | nil => simp [keyR]
      | cons r1 r2 =>
        cases q with
        | nil => simp [cmpW] at h
        | cons q1 q2 =>
          have ih := key_le (a := r1 :: r2) (b := q1 :: q2) (fun w hw => ha w (List.mem_cons_of_mem _ hw)) (fun w hw => hb w (List.mem_cons_of_mem _ hw)) h
          show ¬ 48 :: keyL (q1 :: q2) < 48 :: keyL (r1 :: r2)
          rw [List.cons_lt_cons_iff]
          simpa using ih
    · rw [if_neg h0] at h
      have := word_lt (p := keyR r) (q := keyR q) hw hv (keyR_sep r) (by omega)
      exact fun h2 => List.lt_irrefl _ (List.lt_trans h2 this)
end Go.Proofs.YtdicjpkcgeofjaaGreatDoor

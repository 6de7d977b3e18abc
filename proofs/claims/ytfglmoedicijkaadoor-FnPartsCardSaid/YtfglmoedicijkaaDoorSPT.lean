/-
  Texts cut at a byte and put together again; a span's text (plain).
-/
import Derived.Lib.IndexMore
import Derived.Test.YtfglmoedicijkaaDoorQ3
import Derived.Test.YtfglmoedicijkaaDoorDC
namespace Go.Proofs.YtfglmoedicijkaaDoor

theorem splitL_cons {c : UInt8} {l r : List UInt8} (h : ∀ x ∈ l, x ≠ c) : splitL c (l ++ c :: r) = l :: splitL c r := by
  have := splitL_hit (c := c) (l := l ++ c :: r) (k := l.length) (by simp) (fun j x hj hx => h x (by rw [List.getElem?_append_left hj] at hx; exact List.mem_of_getElem? hx))
  rw [this]
  simp
def joinL (c : UInt8) : List (List UInt8) → List UInt8
  | [] => []
  | [p] => p
  | p :: q :: r => p ++ c :: joinL c (q :: r)
theorem splitL_ne (c : UInt8) (l : List UInt8) : splitL c l ≠ [] := by
  cases l with
  | nil => simp [splitL]
  | cons b l =>
    rw [splitL]
    split
    · simp
    · split <;> simp
theorem join_split (c : UInt8) : ∀ l : List UInt8, joinL c (splitL c l) = l
  | [] => rfl
  | b :: l => by
    have ih := join_split c l
    rw [splitL]
    cases hb : b == c
    · simp only [Bool.false_eq_true, if_false]
      cases hs : splitL c l with
      | nil => exact absurd hs (splitL_ne c l)
      | cons p ps =>
        rw [hs] at ih
        simp only
        cases ps with
        | nil => simp only [joinL] at ih ⊢; rw [ih]
        | cons q r => simp only [joinL] at ih ⊢; rw [List.cons_append, ih]
    · simp only [if_true]
      have e : b = c := by simpa using hb
      cases hs : splitL c l with
      | nil => exact absurd hs (splitL_ne c l)
      | cons p ps =>
        rw [hs] at ih
        simp only [joinL, List.nil_append]
        rw [ih, e]
theorem split_none {c : UInt8} : ∀ {l : List UInt8}, ∀ p ∈ splitL c l, ∀ x ∈ p, x ≠ c
  | [], p, hp, x, hx => by simp [splitL] at hp; subst hp; simp at hx
  | b :: l, p, hp, x, hx => by
    have ih := @split_none c l
    rw [splitL] at hp
    cases hb : b == c
    · rw [hb] at hp
      simp only [Bool.false_eq_true, if_false] at hp
      have hbc : b ≠ c := by simpa using hb
      cases hs : splitL c l with
      | nil => exact absurd hs (splitL_ne c l)
      | cons q qs =>
        rw [hs] at hp ih
        rcases List.mem_cons.1 hp with e | m
        · subst e
          rcases List.mem_cons.1 hx with e | m2
          · subst e; exact hbc
          · exact ih q (by simp) x m2
        · exact ih p (by simp [m]) x hx
    · rw [hb] at hp
      simp only [if_true] at hp
      rcases List.mem_cons.1 hp with e | m
      · subst e; simp at hx
      · exact ih p m x hx
/-- A byte of a text is the separator or stands in a piece. -/
theorem split_mem {c : UInt8} : ∀ {l : List UInt8} {x : UInt8}, x ∈ l → x = c ∨ ∃ p ∈ splitL c l, x ∈ p
  | b :: l, x, hx => by
    have ih := @split_mem c l x
    rw [splitL]
    cases hb : b == c
    · simp only [Bool.false_eq_true, if_false]
      cases hs : splitL c l with
      | nil => exact absurd hs (splitL_ne c l)
      | cons q qs =>
        rw [hs] at ih
        rcases List.mem_cons.1 hx with e | m
        · exact .inr ⟨b :: q, by simp, by simp [e]⟩
        · rcases ih m with h | ⟨p, hp, hxp⟩
          · exact .inl h
          · rcases List.mem_cons.1 hp with e | m2
            · exact .inr ⟨b :: q, by simp, by rw [← e]; simp [hxp]⟩
            · exact .inr ⟨p, by simp [m2], hxp⟩
    · have e : b = c := by simpa using hb
      simp only [if_true]
      rcases List.mem_cons.1 hx with e2 | m
      · exact .inl (e2.trans e)
      · rcases ih m with h | ⟨p, hp, hxp⟩
        · exact .inl h
        · exact .inr ⟨p, by simp [hp], hxp⟩
theorem index_at {c : UInt8} : ∀ {l : List UInt8} (r : List UInt8), (∀ x ∈ l, x ≠ c) → Lib.index (l ++ c :: c :: r) [c, c] = l.length
  | [], r, _ => by simp [Lib.index]
  | b :: l, r, h => by
    have hb : b ≠ c := h b (by simp)
    have ih := index_at (c := c) (l := l) r fun x hx => h x (by simp [hx])
    rw [List.cons_append, Lib.index, ih]
    rw [if_neg, if_neg]
    · simp
    · simp only [beq_iff_eq]; omega
    · simp only [List.isPrefixOf_cons_cons, Bool.and_eq_true, beq_iff_eq]
      exact fun e => hb e.1.symm
theorem cut_at {c : UInt8} {l : List UInt8} (r : List UInt8) (h : ∀ x ∈ l, x ≠ c) : Lib.cut (l ++ c :: c :: r) [c, c] = (l, r, true) := by
  rw [Lib.cut, index_at r h, if_pos (by omega)]
  have e : ((l.length : Nat) : Int).toNat = l.length := by simp
  rw [e]
  simp
theorem index_split : ∀ (s sub : List UInt8), 0 ≤ Lib.index s sub → s = s.take (Lib.index s sub).toNat ++ sub ++ s.drop ((Lib.index s sub).toNat + sub.length)
  | [], sub, h => by
    rw [Lib.index] at h ⊢
    by_cases e : sub.isEmpty = true
    · rw [if_pos e]
      have : sub = [] := by simpa using e
      subst this; simp
    · rw [if_neg e] at h; omega
  | b :: l, sub, h => by
    have ih := index_split l sub
    rw [Lib.index] at h ⊢
    by_cases e : sub.isPrefixOf (b :: l) = true
    · rw [if_pos e]
      obtain ⟨t, ht⟩ := List.isPrefixOf_iff_prefix.1 e
      simp only [Int.toNat_zero, List.take_zero, List.nil_append, Nat.zero_add]
      rw [← ht]; simp
    · rw [if_neg e] at h ⊢
      by_cases e2 : (Lib.index l sub == -1) = true
      · rw [if_pos e2] at h; omega
      · rw [if_neg e2] at h ⊢
        have hge := Lib.index_ge l sub
        have hne : Lib.index l sub ≠ -1 := by simpa using e2
        have := ih (by omega)
        rw [show (Lib.index l sub + 1).toNat = (Lib.index l sub).toNat + 1 by omega, List.take_succ_cons, show (Lib.index l sub).toNat + 1 + sub.length = ((Lib.index l sub).toNat + sub.length) + 1 by omega, List.drop_succ_cons]
        rw [List.cons_append, List.cons_append, ← this]
/-- What is cut off is what stood there. -/
theorem cut_of {s sub : List UInt8} (h : (Lib.cut s sub).2.2 = true) : s = (Lib.cut s sub).1 ++ sub ++ (Lib.cut s sub).2.1 := by
  rw [Lib.cut] at h ⊢
  by_cases e : 0 ≤ Lib.index s sub
  · rw [if_pos e]
    exact index_split s sub e
  · rw [if_neg e] at h; cases h
theorem cut_miss {s sub : List UInt8} (h : (Lib.cut s sub).2.2 = false) : (Lib.cut s sub).2.1 = [] := by
  rw [Lib.cut] at h ⊢
  by_cases e : 0 ≤ Lib.index s sub
  · rw [if_pos e] at h; cases h
  · rw [if_neg e]
/-- A span's text. -/
def spanT (a b : Int) : List UInt8 := Lib.itoa a ++ 46 :: 46 :: Lib.itoa b
theorem itoa_nodot (n : Int) : ∀ x ∈ Lib.itoa n, x ≠ 46 := fun x hx e => by
  have := itoa_chars n x hx
  rw [e] at this
  revert this; decide
theorem itoa_noslash (n : Int) : ∀ x ∈ Lib.itoa n, x ≠ 47 := fun x hx e => by
  have := itoa_chars n x hx
  rw [e] at this
  revert this; decide
theorem cut_span (a b : Int) : Lib.cut (spanT a b) [46, 46] = (Lib.itoa a, Lib.itoa b, true) := cut_at _ (itoa_nodot a)
theorem split_span (a b : Int) : splitL 46 (spanT a b) = [Lib.itoa a, [], Lib.itoa b] := by
  rw [spanT, splitL_cons (itoa_nodot a)]
  have := splitL_cons (c := 46) (l := []) (r := Lib.itoa b) (by simp)
  rw [List.nil_append] at this
  rw [this, splitL_miss (itoa_nodot b)]
theorem span_inj {a b c d : Int} (ha : -9223372036854775808 ≤ a ∧ a ≤ 9223372036854775807) (hb : -9223372036854775808 ≤ b ∧ b ≤ 9223372036854775807) (hc : -9223372036854775808 ≤ c ∧ c ≤ 9223372036854775807) (hd : -9223372036854775808 ≤ d ∧ d ≤ 9223372036854775807)
    (h : spanT a b = spanT c d) : a = c ∧ b = d := by
  have h1 := cut_span a b
  rw [h, cut_span] at h1
  injection h1 with h2 h3
  injection h3 with h4 _
  exact ⟨(itoa_inj ha.1 ha.2 hc.1 hc.2 h2).symm, (itoa_inj hb.1 hb.2 hd.1 hd.2 h4).symm⟩

end Go.Proofs.YtfglmoedicijkaaDoor

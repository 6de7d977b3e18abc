/-
  Plain: a text cut at each byte of a kind. What strings.Split computes at one byte, and what the reference's own loop does.
-/
import Derived.Lib.Split
import Derived.WideShapes
namespace Go.Proofs.YtfglmoedicijkaaGreatDoor

/-- The pieces between the bytes c. -/
def splitL (c : UInt8) : List UInt8 → List (List UInt8)
  | [] => [[]]
  | b :: l => if b == c then [] :: splitL c l else match splitL c l with
    | [] => [[b]]
    | p :: ps => (b :: p) :: ps
theorem splitL_miss {c : UInt8} : ∀ {l : List UInt8}, (∀ x ∈ l, x ≠ c) → splitL c l = [l]
  | [], _ => rfl
  | b :: l, h => by
    have hb : (b == c) = false := by rw [beq_eq_false_iff_ne]; exact h b (by simp)
    rw [splitL, hb, splitL_miss (fun x hx => h x (by simp [hx]))]
    rfl
theorem splitL_hit {c : UInt8} : ∀ {l : List UInt8} {k : Nat}, l[k]? = some c → (∀ j x, j < k → l[j]? = some x → x ≠ c) → splitL c l = l.take k :: splitL c (l.drop (k + 1))
  | [], k, h, _ => by simp at h
  | b :: l, 0, h, _ => by
    obtain rfl : b = c := by simpa using h
    simp [splitL]
  | b :: l, k + 1, h, hp => by
    have hb : (b == c) = false := by rw [beq_eq_false_iff_ne]; exact hp 0 b (by omega) rfl
    have ih := splitL_hit (l := l) (k := k) (by simpa using h) (fun j x hj hx => hp (j + 1) x (by omega) (by simpa using hx))
    rw [splitL, hb, ih]
    simp
theorem index_one (c : UInt8) : ∀ l : List UInt8, Lib.index l [c] = match l.findIdx? (· == c) with | some k => (k : Int) | none => -1
  | [] => rfl
  | b :: l => by
    rw [Lib.index, index_one c l, List.findIdx?_cons]
    have e : [c].isPrefixOf (b :: l) = (b == c) := by
      rw [List.isPrefixOf_cons_cons, List.isPrefixOf_nil_left, Bool.and_true, Bool.beq_comm]
    rw [e]
    cases hb : b == c
    · cases h : l.findIdx? (· == c) with
      | none => simp
      | some k => simp
    · simp
theorem index_one_some {c : UInt8} {l : List UInt8} {k : Nat} (h : l.findIdx? (· == c) = some k) : l[k]? = some c ∧ ∀ j x, j < k → l[j]? = some x → x ≠ c := by
  obtain ⟨hk, he, hp⟩ := List.findIdx?_eq_some_iff_getElem.1 h
  refine ⟨?_, fun j x hj hx => ?_⟩
  · rw [List.getElem?_eq_getElem hk]; simpa using he
  · have := hp j hj
    rw [List.getElem?_eq_getElem (by omega)] at hx
    cases hx
    simpa using this
theorem splitK_one (c : UInt8) : ∀ (n : Nat) (l : List UInt8), l.length ≤ n → Lib.splitK [c] 0 (Lib.count l [c]) l = splitL c l ∧ (splitL c l).length = Lib.count l [c] + 1 := by
  intro n
  induction n with
  | zero =>
    intro l hl
    obtain rfl : l = [] := List.eq_nil_of_length_eq_zero (by omega)
    exact ⟨rfl, rfl⟩
  | succ n ih =>
    intro l hl
    have hi := index_one c l
    cases h : l.findIdx? (· == c) with
    | none =>
      rw [h] at hi
      have hm := Lib.count_miss hi
      rw [hm, splitL_miss (fun x hx => by have := List.findIdx?_eq_none_iff.1 h x hx; simpa using this)]
      exact ⟨rfl, rfl⟩
    | some k =>
      rw [h] at hi
      simp only at hi
      obtain ⟨h1, h2⟩ := index_one_some h
      have hk : k < l.length := (List.getElem?_eq_some_iff.1 h1).1
      have hc := Lib.count_hit (by simp) hi
      have := ih (l.drop (k + 1)) (by simp; omega)
      simp only [List.length_singleton] at hc
      rw [hc, splitL_hit h1 h2, List.length_cons, this.2]
      refine ⟨?_, by omega⟩
      rw [Nat.add_comm, Lib.splitK, if_neg (by rw [hi]; simp), hi]
      simp only [Int.toNat_natCast, Nat.add_zero, List.length_singleton]
      rw [this.1]

theorem splitL_len {c : UInt8} : ∀ {l : List UInt8}, ∀ p ∈ splitL c l, p.length ≤ l.length
  | [], p, h => by simp [splitL] at h; subst h; simp
  | b :: l, p, h => by
    rw [splitL] at h
    cases hb : b == c
    · rw [hb] at h
      simp only [Bool.false_eq_true, if_false] at h
      cases hs : splitL c l with
      | nil => rw [hs] at h; simp at h; subst h; simp
      | cons q qs =>
        rw [hs] at h
        rcases List.mem_cons.1 h with rfl | h
        · have := splitL_len (c := c) (l := l) q (by rw [hs]; simp)
          simp; omega
        · have := splitL_len (c := c) (l := l) p (by rw [hs]; simp [h])
          simp; omega
    · rw [hb] at h
      simp only [if_true] at h
      rcases List.mem_cons.1 h with rfl | h
      · simp
      · have := splitL_len (c := c) (l := l) p h
        simp; omega
theorem splitL_num {c : UInt8} : ∀ {l : List UInt8}, (splitL c l).length ≤ l.length + 1
  | [] => by simp [splitL]
  | b :: l => by
    have := splitL_num (c := c) (l := l)
    rw [splitL]
    split
    · simp; omega
    · cases hs : splitL c l with
      | nil => simp
      | cons q qs => rw [hs] at this; simp at this ⊢; omega
/-- The pieces of a text between the bytes c. -/
def splitC (c : UInt8) (s : ByteArray) : List ByteArray := (splitL c s.data.toList).map fun l => ⟨l.toArray⟩
theorem splitC_small {c : UInt8} {s : ByteArray} : ∀ p ∈ splitC c s, p.size ≤ s.size := by
  intro p hp
  obtain ⟨l, hl, rfl⟩ := List.mem_map.1 hp
  have := splitL_len l hl
  show l.toArray.size ≤ s.data.size
  simpa using this
theorem splitC_num {c : UInt8} {s : ByteArray} : (splitC c s).length ≤ s.size + 1 := by
  have := splitL_num (c := c) (l := s.data.toList)
  rw [splitC, List.length_map]
  show _ ≤ s.data.size + 1
  simpa using this
theorem splitB_one (c : UInt8) (s : ByteArray) : Lib.splitB ⟨#[c]⟩ 0 (Lib.countB s ⟨#[c]⟩) s = splitC c s ∧ (splitC c s).length = Lib.countB s ⟨#[c]⟩ + 1 := by
  have h1 := splitK_one c _ s.data.toList (Nat.le_refl _)
  have h2 := Lib.splitB_data ⟨#[c]⟩ 0 (Lib.countB s ⟨#[c]⟩) s
  have e : Lib.countB s ⟨#[c]⟩ = Lib.count s.data.toList [c] := rfl
  refine ⟨?_, by rw [splitC, List.length_map, h1.2, e]⟩
  have h3 := congrArg (List.map fun l : List UInt8 => (⟨l.toArray⟩ : ByteArray)) h2
  rw [List.map_map] at h3
  have hid : ((fun l : List UInt8 => (⟨l.toArray⟩ : ByteArray)) ∘ fun x : ByteArray => x.data.toList) = id := by funext x; rfl
  rw [hid, List.map_id] at h3
  rw [h3, e, splitC, ← h1.1]
end Go.Proofs.YtfglmoedicijkaaGreatDoor

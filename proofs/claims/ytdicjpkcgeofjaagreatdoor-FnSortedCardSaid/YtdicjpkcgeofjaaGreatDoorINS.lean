/-
  The reference's insertion into an ordered list of texts.
-/
import Derived.Test.YtdicjpkcgeofjaaGreatDoorOR
import Derived.Test.YtdicjpkcgeofjaaGreatDoorM0
import Derived.Deep.RegionHeld3
import Derived.Deep.DrawnRows
namespace Go.Proofs.YtdicjpkcgeofjaaGreatDoor
open Go.RowKit
attribute [local go_sem ↓] Go.wp_at_zero Go.wp_at_succ

theorem own_some {α : Type} {L : Lay α} {e : TypeId} {w : World} {B n c : Nat} {a : Option Addr} {xs : List α} (h : OwnG L e w B a n c xs) (hn : 0 < n) : ∃ g, a = some ⟨g, 0, none⟩ := by
  rcases own_addr h.1 with rfl | h2
  · have := h.rd.isNone
    omega
  · exact h2
theorem Rd.tail {w : World} {b o : Nat} {xs ys : List Value} (h : Rd w (some ⟨b, o, none⟩) (xs ++ ys)) : Rd w (some ⟨b, o + xs.length, none⟩) ys := by
  rcases h with h | ⟨b', o', e, hb, hc⟩
  · exact .inl (List.append_eq_nil_iff.1 h).2
  · cases e
    refine .inr ⟨_, _, rfl, hb, fun j u hu => ?_⟩
    have := hc (xs.length + j) u (by rw [List.getElem?_append_right (by omega), Nat.add_sub_cancel_left]; exact hu)
    rwa [← Nat.add_assoc] at this
theorem RdG.tail {α : Type} {L : Lay α} {w : World} {b o n : Nat} {xs : List α} (h : RdG L w (some ⟨b, o, none⟩) n xs) {k : Nat} (hk : k ≤ n) : RdG L w (some ⟨b, o + k * L.sz, none⟩) (n - k) (xs.drop k) := by
  have hl := h.len
  have h2 := h.2.2
  rw [← List.take_append_drop k xs, List.flatMap_append] at h2
  have h3 := Rd.tail h2
  rw [flat_len, List.length_take, Nat.min_eq_left (by omega)] at h3
  have hle := h.le
  exact ⟨by simp; omega, by omega, h3⟩
theorem RdG.front {α : Type} {L : Lay α} {w : World} {a : Option Addr} {n : Nat} {xs : List α} (h : RdG L w a n xs) {k : Nat} (hk : k ≤ n) : RdG L w a k (xs.take k) := by
  have hl := h.len
  have h2 := h.2.2
  rw [← List.take_append_drop k xs, List.flatMap_append] at h2
  exact ⟨by simp; omega, Nat.le_trans hk h.le, Rd.front h2⟩
theorem insS_at {xs : List ByteArray} {s : ByteArray} {k : Nat} (hk : k ≤ xs.length) (h1 : ∀ j, j < k → ltS (nthS xs j) s = true) (h2 : k < xs.length → ltS (nthS xs k) s = false) :
    insS xs s = if k < xs.length ∧ nthS xs k = s then xs else xs.take k ++ s :: xs.drop k := by
  rw [insS, insR_at k hk (fun j x hj hx => ?_) (fun x hx => ?_)]
  · by_cases hlt : k < xs.length
    · rw [List.getElem?_eq_getElem hlt, nthS_eq hlt]
      by_cases e : xs[k] = s
      · rw [if_pos (by rw [e]), if_pos ⟨hlt, e⟩]
      · rw [if_neg (by simpa using e), if_neg (fun h => e h.2)]
    · rw [List.getElem?_eq_none (by omega), if_neg (by simp), if_neg (fun h => hlt h.1)]
  · have hj2 := (List.getElem?_eq_some_iff.1 hx).1
    have := h1 j hj
    rw [nthS_eq hj2] at this
    rw [← (List.getElem?_eq_some_iff.1 hx).2]; exact this
  · have hk2 := (List.getElem?_eq_some_iff.1 hx).1
    have := h2 hk2
    rw [nthS_eq hk2] at this
    rw [← (List.getElem?_eq_some_iff.1 hx).2]; exact this

end Go.Proofs.YtdicjpkcgeofjaaGreatDoor

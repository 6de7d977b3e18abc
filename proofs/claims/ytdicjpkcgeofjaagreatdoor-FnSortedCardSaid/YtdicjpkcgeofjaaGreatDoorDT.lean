/-
  The reference's draws of sound tables, words and lists of words.
-/
import Derived.Test.YtdicjpkcgeofjaaGreatDoorDS
import Derived.Test.YtdicjpkcgeofjaaGreatDoorM0
namespace Go.Proofs.YtdicjpkcgeofjaaGreatDoor
open Go.RowKit

theorem set_ints2 (zs : List Int) (k : Nat) (y : Int) : (zs.map (Value.int .i64)).set k (.int .i64 y) = (zs.set k y).map (Value.int .i64) := by rw [List.map_set]

/-- One element of what the call owns is written. -/
theorem OwnI.store2 {w : World} {B n c k : Nat} {a : Option Addr} {zs : List Int} (h : OwnI w B a n c zs) (hk : k < n) (y : Int) :
    ∃ g, a = some ⟨g, 0, none⟩ ∧ B ≤ g ∧ (∃ u, w.cell? ⟨g, k, none⟩ = some u) ∧ w.frozen? ⟨g, k, none⟩ = false ∧ OwnI (w.setCell ⟨g, k, none⟩ (.int .i64 y)) B a n c (zs.set k y) := by
  rcases own_addr h.1 with rfl | ⟨g, rfl⟩
  · have := h.rd.isNone.1
    omega
  · refine ⟨g, rfl, (h.1.lt g rfl).1, own_old h.1 k hk, h.1.frozenAt k, ?_, h.2⟩
    have := (h.1.stored k (.int .i64 y)).1
    rwa [set_ints2] at this
theorem OwnI.litN (w : World) (zs : List Int) (xs : Array Value) (h : xs.toList = zs.map (Value.int .i64)) (hn : zs.length ≤ 100) : OwnI (w.alloc (.cells xs 2)) w.heap.size (some ⟨w.heap.size, 0, none⟩) zs.length zs.length zs :=
  ⟨by
    have := World.ownsRow_lit (e := 2) (size := 1) w xs zs.length (Nat.le_refl _) (by unfold maxLen; omega) (by rw [← Array.length_toList, h]; simp)
    rwa [h] at this, by omega⟩
theorem OwnI.cut {w : World} {B g n c m : Nat} {zs : List Int} (h : OwnI w B (some ⟨g, 0, none⟩) n c zs) (hm : m ≤ n) : OwnI w B (some ⟨g, 0, none⟩) m c (zs.take m) := by
  have := own_cut h.1 hm
  rw [Nat.mul_one, ← List.map_take] at this
  exact ⟨this, Nat.le_trans hm h.2⟩
theorem own_off {w : World} {B e sz n c m b k : Nat} {a : Option Addr} {xs : List Value} {u : Value} (h : w.ownsRow B e sz (.slice a n c) m xs) (hne : ∀ q, a = some q → q.block ≠ b) : (w.setCell ⟨b, k, none⟩ u).ownsRow B e sz (.slice a n c) m xs := by
  refine ⟨h.1, ?_⟩
  rcases h.2 with hn | ⟨g2, cap, cur, hv, hbg, hgg, rest⟩
  · exact .inl hn
  · refine .inr ⟨g2, cap, cur, hv, hbg, ?_, rest⟩
    cases hv
    rw [Below.heap_setCell _ _ _ _ (hne ⟨g2, 0, none⟩ rfl)]
    exact hgg
theorem own_below {w : World} {B e sz n c m : Nat} {a : Option Addr} {xs : List Value} (h : w.ownsRow B e sz (.slice a n c) m xs) : ∀ q, a = some q → q.block < w.heap.size := fun q hq => by
  rcases own_addr h with rfl | ⟨g, rfl⟩
  · cases hq
  · cases hq; exact (h.lt g rfl).2
def tab26 : List Int := [0, 1, 2, 3, 0, 1, 2, 0, 0, 2, 2, 4, 5, 5, 0, 1, 2, 6, 2, 3, 0, 1, 0, 2, 0, 2]
def DrewTab (w : World) (g : Nat) (e : Ending) (w' : World) : Prop := ∃ a n c zs, e = .returned (.slice a n c) ∧ n ≤ 26 ∧ OwnI w' w.heap.size a n c zs ∧ Drew w g w'

def shortL (ss : List ByteArray) : Prop := (∀ s ∈ ss, s.size ≤ 68) ∧ (nthS ss 0).size ≤ 51
theorem shortL.snoc {l : List ByteArray} {s : ByteArray} (h : shortL l) (hs : s.size ≤ 68) (h0 : l.length = 0 → s.size ≤ 51) : shortL (l ++ [s]) := by
  refine ⟨fun z hz => ?_, ?_⟩
  · rcases List.mem_append.1 hz with k | k
    · exact h.1 z k
    · rw [List.mem_singleton.1 k]; exact hs
  · cases l with
    | nil => exact h0 rfl
    | cons x xs => exact h.2
def DrewL (w : World) (g : Nat) (e : Ending) (w' : World) : Prop := ∃ a c ss, e = .returned (.slice a ss.length c) ∧ ss.length ≤ 21 ∧ (∀ s ∈ ss, s.size ≤ 68) ∧ OwnG layS 9 w' w.heap.size a ss.length c ss ∧ Drew w g w'

/-- What the draw of matches hands back. -/
def DrewM (w : World) (e : Ending) (w' : World) : Prop := ∃ a n c zs a2 c2 ss s, e = .returned (.tuple #[.slice a n c, .slice a2 ss.length c2, .string s]) ∧ n ≤ 26 ∧ OwnI w' w.heap.size a n c zs ∧ ss.length ≤ 21 ∧ OwnS w' w.heap.size a2 ss.length c2 ss ∧ s.size ≤ 68 ∧ Ext w w'

end Go.Proofs.YtdicjpkcgeofjaaGreatDoor

/-
  The statements' own helpers on slices of ints: a copy, a comparison of two that are the same, marks written and held.
-/
import Derived.Test.YtfglmoedicijkaaGreatDoorA
import Derived.Deep.QuietTactic
import Derived.BigQuiet
namespace Go.Proofs.YtfglmoedicijkaaGreatDoor
open Go.RowKit

theorem ints_take_set (zs : List Int) (k n : Nat) (hn : zs.length = n) (h : k < n) : ((zs.take k).map (Value.int .i64) ++ List.replicate (n - k) (Value.int .i64 0)).set k (Value.int .i64 (nth zs k)) = (zs.take (k + 1)).map (Value.int .i64) ++ List.replicate (n - (k + 1)) (Value.int .i64 0) := by
  subst hn
  have e : zs.length - k = (zs.length - (k + 1)) + 1 := by omega
  rw [e, List.replicate_succ]
  have hl : ((zs.take k).map (Value.int .i64)).length = k := by simp; omega
  rw [List.set_append_right _ _ (by omega), hl]
  have t := List.take_succ_eq_append_getElem h
  rw [t, List.map_append, nth_eq h, List.append_assoc, Nat.sub_self]
  rfl

theorem marks_set (zs : List Int) (k : Int) (n i : Nat) (hn : zs.length = n) (h : i < n) :
    (((marks k i) ++ zs.drop i).map (Value.int .i64)).set i (Value.int .i64 (k + i)) = ((marks k (i + 1)) ++ zs.drop (i + 1)).map (Value.int .i64) := by
  subst hn
  rw [List.drop_eq_getElem_cons h, ← List.map_set]
  have hl : (marks k i).length = i := marks_len k i
  rw [List.set_append_right _ _ (by omega), hl, Nat.sub_self, List.set_cons_zero]
  simp only [marks, List.range_succ, List.map_append, List.append_assoc, List.map_cons, List.map_nil, List.cons_append, List.nil_append]

/-- Of what was there the block that a leads to alone has turned; there may be new blocks. -/
structure Wrote (w w' : World) (a : Option Addr) : Prop where
  os : w'.os = w.os
  tape : w'.tape = w.tape
  output : w'.output = w.output
  size : w.heap.size ≤ w'.heap.size
  block : ∀ k, k < w.heap.size → (∀ g, a = some g → k ≠ g.block) → w'.heap[k]? = w.heap[k]?
theorem Wrote.refl (w : World) (a : Option Addr) : Wrote w w a := ⟨rfl, rfl, rfl, Nat.le_refl _, fun _ _ _ => rfl⟩
theorem Wrote.setCell {w w' : World} {b o : Nat} (h : Wrote w w' (some ⟨b, o, none⟩)) (j : Nat) (u : Value) : Wrote w (w'.setCell ⟨b, j, none⟩ u) (some ⟨b, o, none⟩) :=
  ⟨h.os, h.tape, h.output, by simpa [World.setCell] using h.size, fun k hlt hk => by rw [Below.heap_setCell _ ⟨b, j, none⟩ _ _ (hk ⟨b, o, none⟩ rfl)]; exact h.block k hlt hk⟩
theorem Wrote.more {w w1 w2 : World} {a : Option Addr} (h : Wrote w w1 a) (x : Ext w1 w2) : Wrote w w2 a :=
  ⟨x.os.trans h.os, x.tape.trans h.tape, x.output.trans h.output, Nat.le_trans h.size x.size, fun k hlt hk => (x.block k (Nat.lt_of_lt_of_le hlt h.size)).trans (h.block k hlt hk)⟩
theorem Wrote.trans {w w1 w2 : World} {a : Option Addr} (h : Wrote w w1 a) (k : Wrote w1 w2 a) : Wrote w w2 a :=
  ⟨k.os.trans h.os, k.tape.trans h.tape, k.output.trans h.output, Nat.le_trans h.size k.size, fun j hlt hj => (k.block j (Nat.lt_of_lt_of_le hlt h.size) hj).trans (h.block j hlt hj)⟩
/-- What was there before that block was made reads on. -/
theorem Wrote.ext {w0 w w' : World} {B e sz n c m : Nat} {a : Option Addr} {xs : List Value} (h : Wrote w w' a) (h0 : Ext w0 w) (ho : w.ownsRow B e sz (.slice a n c) m xs) (hB : w0.heap.size ≤ B) : Ext w0 w' :=
  Below.trans h0 ⟨h.os, h.tape, h.output, h.size, fun k hk => h.block k (Nat.lt_of_lt_of_le hk h0.size) fun g hg => by
    subst hg
    have := (ho.lt _ rfl).1
    omega⟩
/-- What was made behind that block stays owned. -/
theorem Wrote.kept {w w' : World} {B B' e e' sz sz' n n' c c' m m' : Nat} {a a' : Option Addr} {xs ys : List Value} (h : Wrote w w' a) (ho : w.ownsRow B' e' sz' (.slice a' n' c') m' ys)
    (hw : ∃ w1 : World, w1.ownsRow B e sz (.slice a n c) m xs ∧ w1.heap.size ≤ B') : w'.ownsRow B' e' sz' (.slice a' n' c') m' ys := by
  obtain ⟨w1, hw1, hs⟩ := hw
  refine ⟨ho.1, ?_⟩
  rcases ho.2 with hn | ⟨g, cap, cur, hv, hbg, hgg, rest⟩
  · exact .inl hn
  · refine .inr ⟨g, cap, cur, hv, hbg, ?_, rest⟩
    rw [h.block g (Array.getElem?_eq_some_iff.1 hgg).1 ?_]
    · exact hgg
    · rintro g' rfl
      have := (hw1.lt _ rfl).2
      omega
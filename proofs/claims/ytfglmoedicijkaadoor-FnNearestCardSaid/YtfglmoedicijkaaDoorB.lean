/-
  The statements' own helpers on slices of ints: a copy, a comparison of two that are the same, marks written and held.
-/
import Derived.Test.YtfglmoedicijkaaDoorA
import Derived.Deep.QuietTactic
import Derived.BigQuiet
namespace Go.Proofs.YtfglmoedicijkaaDoor
open Go.RowKit

theorem ints_take_set (zs : List Int) (k n : Nat) (hn : zs.length = n) (h : k < n) : ((zs.take k).map (Value.int .i64) ++ List.replicate (n - k) (Value.int .i64 0)).set k (Value.int .i64 (nth zs k)) = (zs.take (k + 1)).map (Value.int .i64) ++ List.replicate (n - (k + 1)) (Value.int .i64 0) := by
  subst hn
  have e : zs.length - k = (zs.length - (k + 1)) + 1 := by omega
  rw [e, List.replicate_succ]
  have hl : ((zs.take k).map (Value.int .i64)).length = k := by simp; omega
  rw [List.set_append_right _ _ (by omega), hl]
  have t := List.take_succ_eq_append_getElem h
  rw [t, List.map_append, nth_eq h, List.append_assoc, Nat.sub_self]
  rfl

set_option maxHeartbeats 400000 in
theorem toInt64S_any (a : Option Addr) (n c : Nat) (zs : List Int) (w : World) (hr : RdI w a n zs) :
    Calls Tryd.prog 8 #[.slice a n c] w fun e w' => ∃ v, e = .returned v ∧ NewI w w' zs v := by
  obtain ⟨i, hi, hz0, hz1, hz2⟩ := info_parts Tryd.info_i64
  have hm := hr.le
  go_enter Tryd.func8, Tryd.ntmps8
  go_wp2_with (first | (at_make; refine wpList_make_full _ rfl _ _ 22 rfl w.heap.size 2 i (.int .i64 0) 1 Tryd.underlying22 hi hz0 hz1 _ _ _ _ n rfl rfl rfl rfl (by rw [hz2]; omega) (by simp [maxLen]; omega) (Nat.le_refl _) ?_; intro w1 hown hgrow))
  go_loopw [4] (fun i wr => ∃ k : Nat, k ≤ n ∧ i = .int .i64 k ∧ wr.ownsRow w.heap.size 2 1 (.slice (some ⟨w.heap.size, 0, none⟩) n n) n ((zs.take k).map (Value.int .i64) ++ List.replicate (n - k) (Value.int .i64 0)) ∧ Ext w wr) (fun i _ => n - (intOf i).toNat)
  case atStart => exact ⟨0, Nat.zero_le _, rfl, by have e := toList_madeCells_one (.int .i64 0) n; simpa [Value.cells, e] using hown, (Ext.refl _).grown0 hgrow⟩
  case round =>
    obtain ⟨k, hk, rfl, ho, hb⟩ := hrel
    by_cases hlt : k < n
    · obtain ⟨b, o, rfl, hbl, hc⟩ := hr.at (by omega)
      have hck : wr.cell? ⟨b, o + k, none⟩ = some (.int .i64 (nth zs k)) := by
        rw [Below.cell hb (p := ⟨b, o + k, none⟩) hbl]; exact hc k hlt
      have hf := ho.frozenAt k
      obtain ⟨u, hw⟩ := own_old ho k hlt
      have hs1 := (ho.stored k (.int .i64 (nth zs k))).1
      rw [ints_take_set zs k n hr.len hlt] at hs1
      have HS := Lib.hid (And.intro hs1 (hb.setCell (p := ⟨w.heap.size, k, none⟩) (Nat.le_refl _) (.int .i64 (nth zs k))))
      clear hc hs1 ho hb
      go_wp2
      go_roundw
      case rel => exact ⟨k + 1, by omega, by go_num, by simpa using HS.out.1, by simpa using HS.out.2⟩
      case measure => simp [intOf]; omega
    · obtain rfl : k = n := by omega
      have HS := Lib.hid (And.intro ho hb)
      clear ho hb
      go_wp2
      go_ret
      refine ⟨_, rfl, _, k, k, rfl, ⟨?_, hm⟩, HS.out.2⟩
      simpa [← hr.len] using HS.out.1

set_option maxHeartbeats 400000 in
theorem eqInt64S_same (a b : Option Addr) (n c c' : Nat) (zs : List Int) (w : World) (ha : RdI w a n zs) (hb : RdI w b n zs) :
    Calls Tryd.prog 12 #[.slice a n c, .slice b n c'] w fun e w' => e = .returned (.bool true) ∧ Still w w' := by
  have hm := ha.le
  go_enter Tryd.func12, Tryd.ntmps12
  go_wp2
  go_loopw [5] (fun i wr => ∃ k : Nat, k ≤ n ∧ i = .int .i64 k ∧ Still w wr) (fun i _ => n - (intOf i).toNat)
  case atStart => exact ⟨0, Nat.zero_le _, rfl, Still.refl _⟩
  case round =>
    obtain ⟨k, hk, rfl, hs⟩ := hrel
    by_cases hlt : k < n
    · obtain ⟨b1, o1, rfl, hbl1, hc1⟩ := (ha.ext hs.ext).at (by omega)
      obtain ⟨b2, o2, rfl, hbl2, hc2⟩ := (hb.ext hs.ext).at (by omega)
      have hk1 := hc1 k hlt
      have hk2 := hc2 k hlt
      clear hc1 hc2
      have hki : (k : Int) < n := by omega
      go_wp2
      go_quiet (fail)
      go_wp2
      go_roundw
      case rel => exact ⟨k + 1, by omega, by go_num, hs.drewN _⟩
      case measure => simp [intOf]; omega
    · obtain rfl : k = n := by omega
      go_wp2
      go_ret
      exact ⟨rfl, hs⟩

theorem marks_set (zs : List Int) (k : Int) (n i : Nat) (hn : zs.length = n) (h : i < n) :
    (((marks k i) ++ zs.drop i).map (Value.int .i64)).set i (Value.int .i64 (k + i)) = ((marks k (i + 1)) ++ zs.drop (i + 1)).map (Value.int .i64) := by
  subst hn
  rw [List.drop_eq_getElem_cons h, ← List.map_set]
  have hl : (marks k i).length = i := marks_len k i
  rw [List.set_append_right _ _ (by omega), hl, Nat.sub_self, List.set_cons_zero]
  simp only [marks, List.range_succ, List.map_append, List.append_assoc, List.map_cons, List.map_nil, List.cons_append, List.nil_append]

/-- Of what was there the block that a leads to alone has turned; there may be new blocks. -/
structure Wrote (w w' : World) (a : Option Addr) : Prop where
  os : w'.os = w.os
  tape : w'.tape = w.tape
  output : w'.output = w.output
  size : w.heap.size ≤ w'.heap.size
  block : ∀ k, k < w.heap.size → (∀ g, a = some g → k ≠ g.block) → w'.heap[k]? = w.heap[k]?
theorem Wrote.refl (w : World) (a : Option Addr) : Wrote w w a := ⟨rfl, rfl, rfl, Nat.le_refl _, fun _ _ _ => rfl⟩
theorem Wrote.setCell {w w' : World} {b o : Nat} (h : Wrote w w' (some ⟨b, o, none⟩)) (j : Nat) (u : Value) : Wrote w (w'.setCell ⟨b, j, none⟩ u) (some ⟨b, o, none⟩) :=
  ⟨h.os, h.tape, h.output, by simpa [World.setCell] using h.size, fun k hlt hk => by rw [Below.heap_setCell _ ⟨b, j, none⟩ _ _ (hk ⟨b, o, none⟩ rfl)]; exact h.block k hlt hk⟩
theorem Wrote.more {w w1 w2 : World} {a : Option Addr} (h : Wrote w w1 a) (x : Ext w1 w2) : Wrote w w2 a :=
  ⟨x.os.trans h.os, x.tape.trans h.tape, x.output.trans h.output, Nat.le_trans h.size x.size, fun k hlt hk => (x.block k (Nat.lt_of_lt_of_le hlt h.size)).trans (h.block k hlt hk)⟩
theorem Wrote.trans {w w1 w2 : World} {a : Option Addr} (h : Wrote w w1 a) (k : Wrote w1 w2 a) : Wrote w w2 a :=
  ⟨k.os.trans h.os, k.tape.trans h.tape, k.output.trans h.output, Nat.le_trans h.size k.size, fun j hlt hj => (k.block j (Nat.lt_of_lt_of_le hlt h.size) hj).trans (h.block j hlt hj)⟩
/-- What was there before that block was made reads on. -/
theorem Wrote.ext {w0 w w' : World} {B e sz n c m : Nat} {a : Option Addr} {xs : List Value} (h : Wrote w w' a) (h0 : Ext w0 w) (ho : w.ownsRow B e sz (.slice a n c) m xs) (hB : w0.heap.size ≤ B) : Ext w0 w' :=
  Below.trans h0 ⟨h.os, h.tape, h.output, h.size, fun k hk => h.block k (Nat.lt_of_lt_of_le hk h0.size) fun g hg => by
    subst hg
    have := (ho.lt _ rfl).1
    omega⟩
/-- What was made behind that block stays owned. -/
theorem Wrote.kept {w w' : World} {B B' e e' sz sz' n n' c c' m m' : Nat} {a a' : Option Addr} {xs ys : List Value} (h : Wrote w w' a) (ho : w.ownsRow B' e' sz' (.slice a' n' c') m' ys)
    (hw : ∃ w1 : World, w1.ownsRow B e sz (.slice a n c) m xs ∧ w1.heap.size ≤ B') : w'.ownsRow B' e' sz' (.slice a' n' c') m' ys := by
  obtain ⟨w1, hw1, hs⟩ := hw
  refine ⟨ho.1, ?_⟩
  rcases ho.2 with hn | ⟨g, cap, cur, hv, hbg, hgg, rest⟩
  · exact .inl hn
  · refine .inr ⟨g, cap, cur, hv, hbg, ?_, rest⟩
    rw [h.block g (Array.getElem?_eq_some_iff.1 hgg).1 ?_]
    · exact hgg
    · rintro g' rfl
      have := (hw1.lt _ rfl).2
      omega

set_option maxHeartbeats 400000 in
theorem markInt64S_any (B : Nat) (a : Option Addr) (n c : Nat) (k : Int) (zs : List Int) (w : World) (hr : OwnI w B a n c zs) (hk0 : 0 ≤ k) (hk1 : k ≤ 4294967296) :
    Calls Tryd.prog 14 #[.slice a n c, .int .i64 k] w fun e w' => e = .returned (.int .i64 (k + n)) ∧ OwnI w' B a n c (marks k n) ∧ Wrote w w' a := by
  have hm := hr.2
  go_enter Tryd.func14, Tryd.ntmps14
  go_wp2
  go_loopw [1, 5] (fun u i wr => ∃ t : Nat, t ≤ n ∧ i = .int .i64 t ∧ u = .int .i64 (k + t) ∧ OwnI wr B a n c (marks k t ++ zs.drop t) ∧ Wrote w wr a) (fun _ i _ => n - (intOf i).toNat)
  case atStart => exact ⟨0, Nat.zero_le _, rfl, by simp, by simpa [marks] using hr, Wrote.refl _ _⟩
  case round =>
    obtain ⟨t, ht, rfl, rfl, ho, hw⟩ := hrel
    by_cases hlt : t < n
    · rcases own_addr ho.1 with rfl | ⟨g, rfl⟩
      · exfalso
        rcases ho.1.2 with ⟨h, h0⟩ | ⟨g, cap, cur, h', _⟩
        · omega
        · simp at h'
      obtain ⟨u0, hu⟩ := own_old ho.1 t hlt
      have hf := ho.1.frozenAt t
      have hs1 := (ho.1.stored t (.int .i64 (k + t))).1
      rw [marks_set zs k n t hr.rd.len hlt] at hs1
      have HS := Lib.hid (And.intro (show OwnI _ _ _ _ _ _ from ⟨hs1, hm⟩) (hw.setCell t (.int .i64 (k + t))))
      clear hs1 ho hw
      go_wp2
      go_roundw
      case rel => exact ⟨t + 1, by omega, by go_num, by go_num, by simpa using HS.out.1, by simpa using HS.out.2⟩
      case measure => simp [intOf]; omega
    · obtain rfl : t = n := by omega
      have HS := Lib.hid (And.intro ho hw)
      clear ho hw
      go_wp2
      go_ret
      refine ⟨rfl, ?_, HS.out.2⟩
      have h := HS.out.1
      rwa [List.drop_of_length_le (by rw [hr.rd.len]; exact Nat.le_refl _), List.append_nil] at h

set_option maxHeartbeats 400000 in
theorem heldInt64S_marks (a : Option Addr) (n c : Nat) (k : Int) (w : World) (hr : RdI w a n (marks k n)) (hk0 : 0 ≤ k) (hk1 : k ≤ 4294967296) :
    Calls Tryd.prog 47 #[.slice a n c, .int .i64 k] w fun e w' => e = .returned (.int .i64 (k + n)) ∧ w = w' := by
  have hm := hr.le
  go_enter Tryd.func47, Tryd.ntmps47
  go_wp2
  go_loop [1, 5] (fun u i => ∃ t : Nat, t ≤ n ∧ i = .int .i64 t ∧ u = .int .i64 (k + t)) (fun _ i => n - (intOf i).toNat)
  case atStart => exact ⟨0, Nat.zero_le _, rfl, by simp⟩
  case round =>
    obtain ⟨t, ht, rfl, rfl⟩ := hrel
    by_cases hlt : t < n
    · obtain ⟨b, o, rfl, hbl, hc⟩ := hr.at (by omega)
      have hck := hc t hlt
      rw [marks_get k n t hlt] at hck
      clear hc
      go_wp2
      go_round
      case rel => exact ⟨t + 1, by omega, by go_num, by go_num⟩
      case measure => simp [intOf]; omega
    · obtain rfl : t = n := by omega
      go_wp2
      go_ret
      exact ⟨rfl, rfl⟩
end Go.Proofs.YtfglmoedicijkaaDoor

/-
  Spans: the statements' helpers on slices of them: compared, marked, held.
-/
import Derived.Test.YteencdgaldhanaaGreatDoorOY
import Derived.Test.YteencdgaldhanaaGreatDoorM0
namespace Go.Proofs.YteencdgaldhanaaGreatDoor
open Go.RowKit

def nthSpan (xs : List SpanV) (k : Nat) : SpanV := xs.getD k ⟨0, 0⟩
theorem nthSpan_eq {xs : List SpanV} {k : Nat} (h : k < xs.length) : nthSpan xs k = xs[k] := by simp [nthSpan, h]
theorem nthSpan_get {xs : List SpanV} {k : Nat} (h : k < xs.length) : xs[k]? = some (nthSpan xs k) := by simp [nthSpan, h]
def RdSpan (w : World) (a : Option Addr) (n : Nat) (xs : List SpanV) : Prop := RdG laySp w a n xs
theorem OwnSpan.rd {w : World} {B n c : Nat} {a : Option Addr} {xs : List SpanV} (h : OwnSpan w B a n c xs) : RdSpan w a n xs := OwnG.rd h.1
theorem OwnSpan.ext {w w' : World} {B n c : Nat} {a : Option Addr} {xs : List SpanV} (h : OwnSpan w B a n c xs) (x : Ext w w') : OwnSpan w' B a n c xs := ⟨OwnG.ext h.1 x, trivial⟩
theorem RdSpan.ext {w w' : World} {n : Nat} {a : Option Addr} {xs : List SpanV} (h : RdSpan w a n xs) (x : Ext w w') : RdSpan w' a n xs := RdG.ext h x
theorem RdSpan.len {w : World} {n : Nat} {a : Option Addr} {xs : List SpanV} (h : RdSpan w a n xs) : xs.length = n := RdG.len h
theorem RdSpan.le {w : World} {n : Nat} {a : Option Addr} {xs : List SpanV} (h : RdSpan w a n xs) : n ≤ 4294967296 := RdG.le h
theorem RdSpan.at {w : World} {n : Nat} {a : Option Addr} {xs : List SpanV} (h : RdSpan w a n xs) (hn : 0 < n) :
    ∃ b o, a = some ⟨b, o, none⟩ ∧ b < w.heap.size ∧ ∀ k, k < n → w.cell? ⟨b, o + k * 2, none⟩ = some (.int .i64 (nthSpan xs k).from_) ∧ w.cell? ⟨b, o + k * 2 + 1, none⟩ = some (.int .i64 (nthSpan xs k).to_) := by
  obtain ⟨b, o, ha, hb, hc⟩ := RdG.at h hn
  refine ⟨b, o, ha, hb, fun k hk => ?_⟩
  have hg := nthSpan_get (xs := xs) (k := k) (by rw [h.len]; exact hk)
  exact ⟨by simpa [laySp] using hc k _ hg 0 _ rfl, by simpa [laySp, Nat.add_assoc] using hc k _ hg 1 _ rfl⟩

set_option maxRecDepth 100000 in
set_option maxHeartbeats 1000000 in
theorem eqSpanS_same (a b : Option Addr) (n c c' : Nat) (xs : List SpanV) (w : World) (ha : RdSpan w a n xs) (hb : RdSpan w b n xs) :
    Calls Tryz.prog 10 #[.slice a n c, .slice b n c'] w fun e w' => e = .returned (.bool true) ∧ Ext w w' := by
  have hm := ha.le
  go_enter Tryz.func10, Tryz.ntmps10
  go_wp2
  go_loopw [5] (fun i wr => ∃ k : Nat, k ≤ n ∧ i = .int .i64 k ∧ Ext w wr) (fun i _ => n - (intOf i).toNat)
  case atStart => exact ⟨0, Nat.zero_le _, rfl, Ext.refl _⟩
  case round =>
    obtain ⟨k, hk, rfl, hx⟩ := hrel
    by_cases hlt : k < n
    · obtain ⟨b1, o1, rfl, hbl1, hA⟩ := (ha.ext hx).at (by omega)
      obtain ⟨b2, o2, rfl, hbl2, hB⟩ := (hb.ext hx).at (by omega)
      obtain ⟨hc0, hc1⟩ := hA k hlt
      obtain ⟨hd0, hd1⟩ := hB k hlt
      clear hA hB
      have hki : (k : Int) < n := by omega
      go_wp2
      go_still_tail 8, (by kernel_rfl)
      go_wp2_with fail
      refine (eqSpan_same (nthSpan xs k) _).mono ?_
      rintro e w1 ⟨rfl, hx1⟩
      go_wp2
      go_roundw
      case rel => exact ⟨k + 1, by omega, by go_num, hx.drew.trans hx1⟩
      case measure => simp [intOf]; omega
    · obtain rfl : k = n := by omega
      go_wp2
      go_ret
      exact ⟨rfl, hx⟩

def markSpan (k : Int) : SpanV := ⟨k, k + 1⟩
def marksSpan (k : Int) (n : Nat) : List SpanV := (List.range n).map fun (i : Nat) => markSpan (k + 2 * (i : Int))
theorem marksSpan_len (k : Int) (n : Nat) : (marksSpan k n).length = n := by simp [marksSpan]
theorem marksSpan_get (k : Int) (n i : Nat) (h : i < n) : nthSpan (marksSpan k n) i = markSpan (k + 2 * (i : Int)) := by simp [nthSpan, marksSpan, h]
theorem marksSpan_set (xs : List SpanV) (k : Int) (n t : Nat) (hn : xs.length = n) (h : t < n) :
    (((marksSpan k t ++ xs.drop t).flatMap laySp.cells).set (t * 2) (.int .i64 (k + 2 * (t : Int)))).set (t * 2 + 1) (.int .i64 (k + 2 * (t : Int) + 1)) = (marksSpan k (t + 1) ++ xs.drop (t + 1)).flatMap laySp.cells := by
  subst hn
  rw [List.drop_eq_getElem_cons h, List.flatMap_append, List.flatMap_cons]
  have hl : ((marksSpan k t).flatMap laySp.cells).length = t * 2 := by rw [flat_len, marksSpan_len]; rfl
  repeat rw [List.set_append_right _ _ (by omega), hl]
  simp only [marksSpan, List.range_succ, List.map_append, List.flatMap_append, List.append_assoc]
  simp [laySp, markSpan]

set_option maxRecDepth 100000 in
set_option maxHeartbeats 1000000 in
theorem markSpanS_any (B : Nat) (a : Option Addr) (n c : Nat) (k : Int) (xs : List SpanV) (w : World) (hr : OwnSpan w B a n c xs) (hk0 : 0 < k) (hk1 : k ≤ 1048576) (hn : n ≤ 1048576) :
    Calls Tryz.prog 13 #[.slice a n c, .int .i64 k] w fun e w' => e = .returned (.int .i64 (k + 2 * (n : Int))) ∧ OwnSpan w' B a n c (marksSpan k n) ∧ Wrote w w' a := by
  have hm := hr.1.2
  go_enter Tryz.func13, Tryz.ntmps13
  go_wp2
  go_loopw [1, 5] (fun u i wr => ∃ t : Nat, t ≤ n ∧ i = .int .i64 t ∧ u = .int .i64 (k + 2 * (t : Int)) ∧ OwnG laySp 60 wr B a n c (marksSpan k t ++ xs.drop t) ∧ Wrote w wr a) (fun _ i _ => n - (intOf i).toNat)
  case atStart => exact ⟨0, Nat.zero_le _, rfl, by simp, by simpa [marksSpan] using (show OwnG laySp 60 w B a n c xs from hr.1), Wrote.refl _ _⟩
  case round =>
    obtain ⟨t, ht, rfl, rfl, ho, hw⟩ := hrel
    by_cases hlt : t < n
    · obtain ⟨g, rfl⟩ : ∃ g, a = some ⟨g, 0, none⟩ := by
        rcases own_addr ho.1 with rfl | h
        · have := ho.rd.isNone.1; omega
        · exact h
      have hti : (t : Int) < n := by omega
      have ht0 : (0 : Int) ≤ t := by omega
      have own0 : wr.ownsRow B 60 2 (.slice (some ⟨g, 0, none⟩) n c) n _ := ho.1
      have hf0 := own0.frozenAt (t * 2)
      obtain ⟨u0, hu0⟩ := own_oldG own0 (t * 2) (by omega)
      have hf1 := own0.frozenAt (t * 2 + 1)
      obtain ⟨u1, hu1⟩ := own_oldG own0 (t * 2 + 1) (by omega)
      have own1 := (own0.stored (t * 2) (.int .i64 (k + 2 * (t : Int)))).1
      have own2 := (own1.stored (t * 2 + 1) (.int .i64 (k + 2 * (t : Int) + 1))).1
      have hw2 := (hw.setCell (t * 2) (.int .i64 (k + 2 * (t : Int)))).setCell (t * 2 + 1) (.int .i64 (k + 2 * (t : Int) + 1))
      have hse := marksSpan_set xs k n t (OwnG.rd hr.1).len hlt
      rw [hse] at own2
      have HS := Lib.hid (And.intro (show OwnG laySp 60 _ _ _ _ _ _ from ⟨own2, hm⟩) hw2)
      clear own2 own1 own0 hse ho hw
      go_wp2
      go_roundw
      case rel => exact ⟨t + 1, by omega, by go_num, by go_num, by simpa using HS.out.1, by simpa using HS.out.2⟩
      case measure => simp [intOf]; omega
    · obtain rfl : t = n := by omega
      have HS := Lib.hid (And.intro ho hw)
      clear ho hw
      go_wp2
      go_ret
      refine ⟨rfl, ⟨?_, trivial⟩, HS.out.2⟩
      have h := HS.out.1
      rwa [List.drop_of_length_le (by rw [(OwnG.rd hr.1).len]; exact Nat.le_refl _), List.append_nil] at h

set_option maxRecDepth 100000 in
set_option maxHeartbeats 1000000 in
theorem heldSpanS_marks (a : Option Addr) (n c : Nat) (k : Int) (w : World) (hr : RdSpan w a n (marksSpan k n)) (hk0 : 0 < k) (hk1 : k ≤ 1048576) (hn : n ≤ 1048576) :
    Calls Tryz.prog 14 #[.slice a n c, .int .i64 k] w fun e w' => e = .returned (.int .i64 (k + 2 * (n : Int))) ∧ Ext w w' := by
  have hm := hr.le
  go_enter Tryz.func14, Tryz.ntmps14
  go_wp2
  go_loopw [1, 5] (fun u i wr => ∃ t : Nat, t ≤ n ∧ i = .int .i64 t ∧ u = .int .i64 (k + 2 * (t : Int)) ∧ Ext w wr) (fun _ i _ => n - (intOf i).toNat)
  case atStart => exact ⟨0, Nat.zero_le _, rfl, by simp, Ext.refl _⟩
  case round =>
    obtain ⟨t, ht, rfl, rfl, hx⟩ := hrel
    by_cases hlt : t < n
    · obtain ⟨b, o, rfl, hbl, hc⟩ := (hr.ext hx).at (by omega)
      obtain ⟨hc0, hc1⟩ := hc t hlt
      rw [marksSpan_get k n t hlt] at hc0 hc1
      simp only [markSpan] at hc0 hc1
      clear hc
      have hti : (t : Int) < n := by omega
      have ht0 : (0 : Int) ≤ t := by omega
      go_wp2
      go_roundw
      case rel => exact ⟨t + 1, by omega, by go_num, by go_num, hx⟩
      case measure => simp [intOf]; omega
    · obtain rfl : t = n := by omega
      go_wp2
      go_ret
      exact ⟨rfl, hx⟩

end Go.Proofs.YteencdgaldhanaaGreatDoor

/-
  Marks in slices of strings: written and held.
-/
import Derived.Test.YtdicjpkcgeofjaaGreatDoorT3
namespace Go.Proofs.YtdicjpkcgeofjaaGreatDoor
open Go.RowKit

/-- The decimal digits of k, none for 0. -/
def dg (k : Nat) : List UInt8 := if _h : k = 0 then [] else dg (k / 10) ++ [UInt8.ofNat (48 + k % 10)]
decreasing_by omega
theorem dg_zero : dg 0 = [] := by unfold dg; rfl
theorem dg_step {k : Nat} (h : 0 < k) : dg k = dg (k / 10) ++ [UInt8.ofNat (48 + k % 10)] := by
  conv => lhs; unfold dg
  rw [dif_neg (by omega)]
theorem dg_len : ∀ (m k : Nat), k < 10 ^ m → (dg k).length ≤ m := by
  intro m
  induction m with
  | zero =>
    intro k hk
    have e : k = 0 := by simpa using hk
    rw [e, dg_zero]; simp
  | succ m ih =>
    intro k hk
    by_cases h : k = 0
    · subst h; rw [dg_zero]; simp
    · rw [dg_step (by omega), List.length_append]
      have := ih (k / 10) (by rw [Nat.pow_succ] at hk; omega)
      simp; omega
/-- The mark k. -/
def markT (k : Nat) : ByteArray := ⟨(109 :: dg k).toArray⟩

theorem dg_move {q k : Nat} {l : List UInt8} (hq : 0 < q) (h : dg q ++ l = dg k) : dg (q / 10) ++ (48 + UInt8.ofNat (q % 10)) :: l = dg k := by
  rw [← h, dg_step hq, List.append_assoc]
  simp [UInt8.ofNat_add]

/-- string of one new byte. -/
theorem conv1 (w : World) (x : Int) : (convert 22 9 (.slice (some ⟨w.heap.size, 0, none⟩) 1 1)).run Tryz.prog (w.alloc (.cells #[.int .u8 x] 5)) = .ok (.string ⟨[UInt8.ofNat x.toNat].toArray⟩) (w.alloc (.cells #[.int .u8 x] 5)) := by
  rw [run_convert_bytes_string _ _ _ _ _ _ _ Tryz.underlying22 Tryz.underlying5 Tryz.underlying9]
  rw [run_bytesToString _ _ _ _ [x] ?_]
  · rfl
  · simp [loadCells, loadCellsFrom, World.cell?_alloc_at, go_sem]

/-- The marks k, k+1, .. as texts. -/
def marksS (k : Int) (n : Nat) : List ByteArray := (List.range n).map fun (i : Nat) => markT (k + (i : Int)).toNat
theorem marksS_len (k : Int) (n : Nat) : (marksS k n).length = n := by simp [marksS]
theorem marksS_get (k : Int) (n i : Nat) (h : i < n) : nthS (marksS k n) i = markT (k + i).toNat := by simp [nthS, marksS, h]
theorem markT_size (k : Nat) (h : k ≤ 8589934592) : (markT k).size ≤ 1073741824 := by
  have := dg_len 12 k (by omega)
  show (109 :: dg k).toArray.size ≤ _
  simp
  omega
theorem marksS_small (k : Int) (n : Nat) (hk : k ≤ 4294967296) (hn : n ≤ 4294967296) : ∀ s ∈ marksS k n, s.size ≤ 1073741824 := by
  intro s hs
  simp only [marksS, List.mem_map, List.mem_range] at hs
  obtain ⟨i, hi, rfl⟩ := hs
  exact markT_size _ (by omega)
theorem marksS_set (ss : List ByteArray) (k : Int) (n i : Nat) (hn : ss.length = n) (h : i < n) :
    ((marksS k i ++ ss.drop i).flatMap layS.cells).set i (.string (markT (k + i).toNat)) = (marksS k (i + 1) ++ ss.drop (i + 1)).flatMap layS.cells := by
  subst hn
  rw [List.drop_eq_getElem_cons h, List.flatMap_append, List.flatMap_cons]
  have hl : ((marksS k i).flatMap layS.cells).length = i := by rw [flat_len, marksS_len]; simp [layS]
  rw [List.set_append_right _ _ (by omega), hl, Nat.sub_self]
  simp only [marksS, List.range_succ, List.map_append, List.flatMap_append, List.append_assoc]
  rfl

end Go.Proofs.YtdicjpkcgeofjaaGreatDoor

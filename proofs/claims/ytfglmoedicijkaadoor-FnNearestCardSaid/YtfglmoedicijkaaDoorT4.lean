/-
  Marks in slices of strings: written and held.
-/
import Derived.Test.YtfglmoedicijkaaDoorT3
namespace Go.Proofs.YtfglmoedicijkaaDoor
open Go.RowKit

/-- The decimal digits of k, none for 0. -/
def dg (k : Nat) : List UInt8 := if _h : k = 0 then [] else dg (k / 10) ++ [UInt8.ofNat (48 + k % 10)]
decreasing_by omega
theorem dg_zero : dg 0 = [] := by unfold dg; rfl
theorem dg_step {k : Nat} (h : 0 < k) : dg k = dg (k / 10) ++ [UInt8.ofNat (48 + k % 10)] := by
  conv => lhs; unfold dg
  rw [dif_neg (by omega)]
theorem dg_len : ∀ (m k : Nat), k < 10 ^ m → (dg k).length ≤ m := by
  intro m
  induction m with
  | zero =>
    intro k hk
    have e : k = 0 := by simpa using hk
    rw [e, dg_zero]; simp
  | succ m ih =>
    intro k hk
    by_cases h : k = 0
    · subst h; rw [dg_zero]; simp
    · rw [dg_step (by omega), List.length_append]
      have := ih (k / 10) (by rw [Nat.pow_succ] at hk; omega)
      simp; omega
/-- The mark k. -/
def markT (k : Nat) : ByteArray := ⟨(109 :: dg k).toArray⟩

theorem dg_move {q k : Nat} {l : List UInt8} (hq : 0 < q) (h : dg q ++ l = dg k) : dg (q / 10) ++ (48 + UInt8.ofNat (q % 10)) :: l = dg k := by
  rw [← h, dg_step hq, List.append_assoc]
  simp [UInt8.ofNat_add]

/-- string of one new byte. -/
theorem conv1 (w : World) (x : Int) : (convert 36 9 (.slice (some ⟨w.heap.size, 0, none⟩) 1 1)).run Tryd.prog (w.alloc (.cells #[.int .u8 x] 5)) = .ok (.string ⟨[UInt8.ofNat x.toNat].toArray⟩) (w.alloc (.cells #[.int .u8 x] 5)) := by
  rw [run_convert_bytes_string _ _ _ _ _ _ _ Tryd.underlying36 Tryd.underlying5 Tryd.underlying9]
  rw [run_bytesToString _ _ _ _ [x] ?_]
  · rfl
  · simp [loadCells, loadCellsFrom, World.cell?_alloc_at, go_sem]

set_option maxRecDepth 100000 in
set_option maxHeartbeats 400000 in
theorem markText_any (k : Nat) (w : World) (h0 : 0 < k) (h1 : k ≤ 4294967296) :
    Calls Tryd.prog 46 #[.int .i64 k] w fun e w' => e = .returned (.string (markT k)) ∧ Ext w w' := by
  have hlen := dg_len 12 k (by omega)
  have HL := Lib.hid hlen
  clear hlen
  go_enter Tryd.func46, Tryd.ntmps46
  go_wp2
  go_loopw [0, 3] (fun u v wr => ∃ (q : Nat) (l : List UInt8), u = .int .i64 q ∧ v = .string ⟨l.toArray⟩ ∧ q ≤ k ∧ dg q ++ l = dg k ∧ Ext w wr) (fun u _ _ => (intOf u).toNat)
  case atStart => exact ⟨k, [], rfl, rfl, Nat.le_refl _, by simp, Ext.refl _⟩
  case round =>
    obtain ⟨q, l, rfl, rfl, hq, hd, hb⟩ := hrel
    have HD := Lib.hid hd
    have hll : l.length ≤ 12 := by
      have h2 := congrArg List.length hd
      have h3 := HL.out
      rw [List.length_append] at h2
      omega
    clear hd
    by_cases hq0 : 0 < q
    · have hcv := conv1 wr (48 + (q : Int) % 10)
      go_wp2
      go_roundw
      case rel => exact ⟨q / 10, (48 + UInt8.ofNat (q % 10)) :: l, by simp, congrArg Value.string (ByteArray.mk_append_mk [48 + UInt8.ofNat (q % 10)] l), by omega, dg_move hq0 HD.out, hb.alloc _⟩
      case measure => simp [intOf]; omega
    · obtain rfl : q = 0 := by omega
      have hl : l = dg k := by have := HD.out; rwa [dg_zero, List.nil_append] at this
      have HL2 := Lib.hid hl
      clear hl
      go_wp2
      go_ret
      exact ⟨congrArg (fun s => Ending.returned (Value.string s)) ((ByteArray.mk_append_mk [109] l).trans (by rw [HL2.out]; rfl)), hb⟩

set_option maxHeartbeats 400000 in
theorem markText_int (k : Int) (w : World) (h0 : 0 < k) (h1 : k ≤ 4294967296) :
    Calls Tryd.prog 46 #[.int .i64 k] w fun e w' => e = .returned (.string (markT k.toNat)) ∧ Ext w w' := by
  obtain ⟨n, rfl⟩ := Int.eq_ofNat_of_zero_le (show 0 ≤ k by omega)
  exact markText_any n w (by omega) (by omega)

/-- The marks k, k+1, .. as texts. -/
def marksS (k : Int) (n : Nat) : List ByteArray := (List.range n).map fun (i : Nat) => markT (k + (i : Int)).toNat
theorem marksS_len (k : Int) (n : Nat) : (marksS k n).length = n := by simp [marksS]
theorem marksS_get (k : Int) (n i : Nat) (h : i < n) : nthS (marksS k n) i = markT (k + i).toNat := by simp [nthS, marksS, h]
theorem markT_size (k : Nat) (h : k ≤ 8589934592) : (markT k).size ≤ 1073741824 := by
  have := dg_len 12 k (by omega)
  show (109 :: dg k).toArray.size ≤ _
  simp
  omega
theorem marksS_small (k : Int) (n : Nat) (hk : k ≤ 4294967296) (hn : n ≤ 4294967296) : ∀ s ∈ marksS k n, s.size ≤ 1073741824 := by
  intro s hs
  simp only [marksS, List.mem_map, List.mem_range] at hs
  obtain ⟨i, hi, rfl⟩ := hs
  exact markT_size _ (by omega)
theorem marksS_set (ss : List ByteArray) (k : Int) (n i : Nat) (hn : ss.length = n) (h : i < n) :
    ((marksS k i ++ ss.drop i).flatMap layS.cells).set i (.string (markT (k + i).toNat)) = (marksS k (i + 1) ++ ss.drop (i + 1)).flatMap layS.cells := by
  subst hn
  rw [List.drop_eq_getElem_cons h, List.flatMap_append, List.flatMap_cons]
  have hl : ((marksS k i).flatMap layS.cells).length = i := by rw [flat_len, marksS_len]; simp [layS]
  rw [List.set_append_right _ _ (by omega), hl, Nat.sub_self]
  simp only [marksS, List.range_succ, List.map_append, List.flatMap_append, List.append_assoc]
  rfl

set_option maxHeartbeats 400000 in
theorem markStringS_any (B : Nat) (a : Option Addr) (n c : Nat) (k : Int) (ss : List ByteArray) (w : World) (hr : OwnS w B a n c ss) (hk0 : 0 < k) (hk1 : k ≤ 1073741824) (hn : n ≤ 1048576) :
    Calls Tryd.prog 15 #[.slice a n c, .int .i64 k] w fun e w' => e = .returned (.int .i64 (k + n)) ∧ OwnS w' B a n c (marksS k n) ∧ Wrote w w' a := by
  have hm := hr.1.2
  go_enter Tryd.func15, Tryd.ntmps15
  go_wp2
  go_loopw [1, 5] (fun u i wr => ∃ t : Nat, t ≤ n ∧ i = .int .i64 t ∧ u = .int .i64 (k + t) ∧ OwnG layS 9 wr B a n c (marksS k t ++ ss.drop t) ∧ Wrote w wr a) (fun _ i _ => n - (intOf i).toNat)
  case atStart => exact ⟨0, Nat.zero_le _, rfl, by simp, by simpa [marksS] using hr.1, Wrote.refl _ _⟩
  case round =>
    obtain ⟨t, ht, rfl, rfl, ho, hw⟩ := hrel
    by_cases hlt : t < n
    · obtain ⟨g, rfl⟩ : ∃ g, a = some ⟨g, 0, none⟩ := by
        rcases own_addr ho.1 with rfl | h
        · have := ho.rd.isNone.1; omega
        · exact h
      go_wp2_with fail
      refine (markText_int (k + t) _ (by omega) (by omega)).mono ?_
      rintro e w1 ⟨rfl, hx⟩
      have ho1 := ho.ext hx
      obtain ⟨u0, hu⟩ := own_old ho1.1 t hlt
      have hf := ho1.1.frozenAt t
      have hs1 := (ho1.1.stored t (.string (markT (k + t).toNat))).1
      rw [marksS_set ss k n t hr.1.rd.len hlt] at hs1
      have HS := Lib.hid (And.intro (show OwnG layS 9 _ _ _ _ _ _ from ⟨hs1, hm⟩) ((hw.more hx).setCell t (.string (markT (k + t).toNat))))
      clear hs1 ho hw ho1 hx
      go_wp2
      go_roundw
      case rel => exact ⟨t + 1, by omega, by go_num, by go_num, by simpa using HS.out.1, by simpa using HS.out.2⟩
      case measure => simp [intOf]; omega
    · obtain rfl : t = n := by omega
      have HS := Lib.hid (And.intro ho hw)
      clear ho hw
      go_wp2
      go_ret
      refine ⟨rfl, ⟨?_, marksS_small _ _ (by omega) (by omega)⟩, HS.out.2⟩
      have h := HS.out.1
      rwa [List.drop_of_length_le (by rw [hr.1.rd.len]; exact Nat.le_refl _), List.append_nil] at h

end Go.Proofs.YtfglmoedicijkaaDoor

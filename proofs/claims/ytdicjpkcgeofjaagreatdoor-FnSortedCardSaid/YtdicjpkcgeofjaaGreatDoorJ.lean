/-
  Words with blanks between them: what strings.Join gives, and the reference's own loop.
-/
import Derived.Test.YtdicjpkcgeofjaaGreatDoorBL
import Derived.Lib.Join
namespace Go.Proofs.YtdicjpkcgeofjaaGreatDoor
open Go.RowKit

def joinS (ss : List ByteArray) : ByteArray := ⟨(Lib.join (ss.map (·.data.toList)) [32]).toArray⟩
theorem joinTail_app (sep : List UInt8) (r q : List (List UInt8)) : Lib.joinTail sep (r ++ q) = Lib.joinTail sep r ++ Lib.joinTail sep q := by simp [Lib.joinTail]
theorem join_snoc (xs : List (List UInt8)) (x sep : List UInt8) (h : xs ≠ []) : Lib.join (xs ++ [x]) sep = Lib.join xs sep ++ sep ++ x := by
  match xs, h with
  | y :: r, _ =>
    rw [List.cons_append, Lib.join_cons, Lib.join_cons, joinTail_app]
    simp [Lib.joinTail]
theorem joinS_nil : joinS [] = ⟨#[]⟩ := rfl
theorem joinS_one (x : ByteArray) : joinS [x] = x := by
  show (⟨(Lib.join [x.data.toList] [32]).toArray⟩ : ByteArray) = x
  rw [Lib.join_one]
theorem joinS_first {ss : List ByteArray} (h : 0 < ss.length) : joinS (ss.take 1) = nthS ss 0 := by
  match ss, h with
  | x :: r, _ => exact joinS_one x
theorem joinS_step {ss : List ByteArray} {k : Nat} (h0 : 0 < k) (hk : k < ss.length) : joinS (ss.take (k + 1)) = joinS (ss.take k) ++ blank ++ nthS ss k := by
  have e : ss.take (k + 1) = ss.take k ++ [nthS ss k] := by rw [nthS_eq hk, List.take_succ_eq_append_getElem hk]
  have hne : (ss.take k).map (·.data.toList) ≠ [] := by
    intro h
    have := congrArg List.length h
    rw [List.length_map, List.length_take, List.length_nil] at this
    omega
  refine eqS.1 ?_
  rw [e]
  show Lib.join ((ss.take k ++ [nthS ss k]).map (·.data.toList)) [32] = _
  rw [List.map_append, List.map_singleton, join_snoc _ _ _ hne, ByteArray.data_append, ByteArray.data_append, Array.toList_append, Array.toList_append]
  rfl
theorem joinS_zero {ss : List ByteArray} {k : Nat} (h : k = 0) (hk : k < ss.length) : joinS (ss.take (k + 1)) = joinS (ss.take k) ++ nthS ss k := by
  subst h
  rw [Nat.zero_add, joinS_first hk, List.take_zero, joinS_nil]
  refine eqS.1 ?_
  rw [ByteArray.data_append, Array.toList_append]
  rfl
theorem joinS_size {ss : List ByteArray} : ∀ k, k ≤ ss.length → (joinS (ss.take k)).size ≤ tot (ss.take k) + k
  | 0, _ => by rw [List.take_zero, joinS_nil]; exact Nat.zero_le _
  | 1, h => by
    have h1 := tot_take (ss := ss) (k := 0) (by omega)
    rw [joinS_first (by omega), h1]
    omega
  | k + 2, h => by
    have ih := joinS_size (ss := ss) (k + 1) (by omega)
    have h1 := tot_take (ss := ss) (k := k + 1) (by omega)
    rw [joinS_step (by omega) (by omega), h1, ByteArray.size_append, ByteArray.size_append]
    have : blank.size = 1 := rfl
    omega
theorem tot_take_le {ss : List ByteArray} : ∀ k, k ≤ ss.length → tot (ss.take k) ≤ tot ss
  | k, h => by
    have := congrArg tot (List.take_append_drop k ss)
    simp only [tot, List.map_append, List.sum_append] at this ⊢
    omega

set_option maxRecDepth 100000 in
set_option maxHeartbeats 1000000 in
theorem l01Words_any (a : Option Addr) (n c : Nat) (ss : List ByteArray) (w : World) (hr : RdS w a n ss) (hs : tot ss + n ≤ 1073741824) :
    Calls Tryz.prog 67 #[.slice a n c] w fun e w' => e = .returned (.string (joinS ss)) ∧ w = w' := by
  have hm := hr.le
  have hln := hr.len
  go_enter Tryz.func67, Tryz.ntmps67
  go_wp2
  go_loop [3, 4] (fun u i => ∃ k : Nat, k ≤ n ∧ i = .int .i64 k ∧ u = .string (joinS (ss.take k))) (fun _ i => n - (intOf i).toNat)
  case atStart => exact ⟨0, Nat.zero_le _, rfl, rfl⟩
  case round =>
    obtain ⟨k, hk, rfl, rfl⟩ := hrel
    have hz := joinS_size (ss := ss) k (by omega)
    have ht := tot_take_le (ss := ss) k (by omega)
    by_cases hlt : k < n
    · obtain ⟨b, o, rfl, hbl, hc⟩ := hr.at (by omega)
      have hck := hc k hlt
      have hsz := hr.size hlt
      clear hc
      by_cases h0 : 0 < k
      · have hst := joinS_step (ss := ss) h0 (by omega)
        have HS := Lib.hid hst
        clear hst
        go_wp2
        go_round
        case rel => exact ⟨k + 1, by omega, by go_num, by rw [HS.out]; rfl⟩
        case measure => simp [intOf]; omega
      · have hst := joinS_zero (ss := ss) (k := k) (by omega) (by omega)
        have HS := Lib.hid hst
        have hd : ¬ (0 : Int) < k := by omega
        clear hst
        go_wp2
        go_round
        case rel => exact ⟨k + 1, by omega, by go_num, by rw [HS.out]⟩
        case measure => simp [intOf]; omega
    · obtain rfl : k = n := by omega
      have hfin : joinS (ss.take k) = joinS ss := by rw [List.take_of_length_le (by omega)]
      have HF := Lib.hid hfin
      clear hfin
      go_wp2
      go_ret
      exact ⟨by rw [← HF.out]; rfl, rfl⟩

end Go.Proofs.YtdicjpkcgeofjaaGreatDoor

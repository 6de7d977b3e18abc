/-
  NearestWords on both sides.
-/
import Derived.Test.YtfglmoedicijkaaDoorU2
import Derived.Test.YtfglmoedicijkaaDoorSO2
namespace Go.Proofs.YtfglmoedicijkaaDoor
open Go.RowKit

def nwP (ls : List ByteArray) (s : ByteArray) (d : Nat) (i : Nat) : Bool := ed (nthS ls i) s (nthS ls i).size s.size == (d : Int)
def nwT (ls : List ByteArray) (s : ByteArray) (d : Nat) : List Int := (List.range d).flatMap fun d => selN ls.length (nwP ls s d)
theorem nwT_succ (ls : List ByteArray) (s : ByteArray) (d : Nat) : nwT ls s (d + 1) = nwT ls s d ++ selN ls.length (nwP ls s d) := by simp [nwT, List.range_succ]
theorem nwT_len (ls : List ByteArray) (s : ByteArray) : ∀ d, (nwT ls s d).length ≤ d * ls.length
  | 0 => by simp [nwT]
  | d + 1 => by
    have h1 := nwT_len ls s d
    have h2 := selN_len ls.length (nwP ls s d)
    rw [nwT_succ, List.length_append, Nat.succ_mul]
    omega
def codeW (ls : List ByteArray) (s : ByteArray) (m : Int) : Int := if (wordsB ls && wordB s) = true then (if ls.length ≤ 20 then (if inB m 0 16 = true then 0 else 2) else 3) else 1
def nwL (ls : List ByteArray) (s : ByteArray) (m : Int) : List Int := if codeW ls s m = 0 then nwT ls s (m.toNat + 1) else []
theorem codeW_bad {ls : List ByteArray} {s : ByteArray} {m : Int} (h : wordsB ls = false ∨ wordB s = false) : codeW ls s m = 1 ∧ nwL ls s m = [] := by
  have : codeW ls s m = 1 := by rw [codeW, if_neg]; rcases h with h | h <;> simp [h]
  exact ⟨this, by rw [nwL, this]; rfl⟩
theorem codeW_long {ls : List ByteArray} {s : ByteArray} {m : Int} (h : wordsB ls = true) (h1 : wordB s = true) (h2 : ¬ ls.length ≤ 20) : codeW ls s m = 3 ∧ nwL ls s m = [] := by
  have : codeW ls s m = 3 := by rw [codeW, h, h1]; exact (if_pos rfl).trans (if_neg h2)
  exact ⟨this, by rw [nwL, this]; rfl⟩
theorem codeW_range {ls : List ByteArray} {s : ByteArray} {m : Int} (h : wordsB ls = true) (h1 : wordB s = true) (h2 : ls.length ≤ 20) (h3 : inB m 0 16 = false) : codeW ls s m = 2 ∧ nwL ls s m = [] := by
  have : codeW ls s m = 2 := by rw [codeW, h, h1, h3]; exact ((if_pos rfl).trans (if_pos h2)).trans (if_neg (by decide))
  exact ⟨this, by rw [nwL, this]; rfl⟩
theorem codeW_ok {ls : List ByteArray} {s : ByteArray} {m : Nat} (h : wordsB ls = true) (h1 : wordB s = true) (h2 : ls.length ≤ 20) (h3 : inB m 0 16 = true) : codeW ls s m = 0 ∧ nwL ls s m = nwT ls s (m + 1) := by
  have : codeW ls s m = 0 := by rw [codeW, h, h1, h3]; exact ((if_pos rfl).trans (if_pos h2)).trans (if_pos rfl)
  exact ⟨this, by rw [nwL, if_pos this]; rfl⟩

set_option maxRecDepth 100000 in
set_option maxHeartbeats 2000000 in
theorem implNearestWords_any (a2 : Option Addr) (m c2 : Nat) (s : ByteArray) (most : Int) (ls : List ByteArray) (w : World) (hr2 : RdS w a2 m ls) (hs : s.size ≤ 1073741824) :
    Calls Tryd.prog 20 #[.slice a2 m c2, .string s, .int .i64 most] w (RetLC w (nwL ls s most) (codeW ls s most)) := by
  have hm := hr2.le
  have hln2 := hr2.len
  cases h0 : wordsB ls
  · have HC := Lib.hid (And.intro h0 (codeW_bad (s := s) (m := most) (.inl h0)))
    clear h0
    go_enter Tryd.func20, Tryd.ntmps20
    go_wp2_with fail
    refine (areWords_any _ _ _ _ _ hr2).mono ?_
    rintro e w1 ⟨rfl, e1⟩
    rw [HC.out.1]
    go_wp2
    go_ret2
    rw [RetLC, HC.out.2.1, HC.out.2.2]
    exact ⟨_, rfl, NewI.nil _ _ e1⟩
  cases h1 : wordB s
  · have HC := Lib.hid (And.intro (And.intro h0 h1) (codeW_bad (ls := ls) (m := most) (.inr h1)))
    clear h0 h1
    go_enter Tryd.func20, Tryd.ntmps20
    go_wp2_with fail
    refine (areWords_any _ _ _ _ _ hr2).mono ?_
    rintro e w1 ⟨rfl, e1⟩
    rw [HC.out.1.1]
    go_wp2_with fail
    refine (implIsWord_any _ _ (by omega)).mono ?_
    rintro e w2 ⟨rfl, e2⟩
    rw [HC.out.1.2]
    go_wp2
    go_ret2
    rw [RetLC, HC.out.2.1, HC.out.2.2]
    exact ⟨_, rfl, NewI.nil _ _ (e1.trans e2)⟩
  by_cases h2n : ¬ ls.length ≤ 20
  · have HC := Lib.hid (And.intro (And.intro h0 h1) (codeW_long (m := most) h0 h1 h2n))
    have hi : (20 : Int) < m := by omega
    clear h0 h1
    go_enter Tryd.func20, Tryd.ntmps20
    go_wp2_with fail
    refine (areWords_any _ _ _ _ _ hr2).mono ?_
    rintro e w1 ⟨rfl, e1⟩
    rw [HC.out.1.1]
    go_wp2_with fail
    refine (implIsWord_any _ _ (by omega)).mono ?_
    rintro e w2 ⟨rfl, e2⟩
    rw [HC.out.1.2]
    go_wp2
    go_ret2
    rw [RetLC, HC.out.2.1, HC.out.2.2]
    exact ⟨_, rfl, NewI.nil _ _ (e1.trans e2)⟩
  have h2 : ls.length ≤ 20 := by omega
  clear h2n
  have hi : ¬ (20 : Int) < m := by omega
  cases h3 : inB most 0 16
  · have HC := Lib.hid (And.intro (And.intro h0 (And.intro h1 h3)) (codeW_range h0 h1 h2 h3))
    clear h0 h1 h3
    go_enter Tryd.func20, Tryd.ntmps20
    go_wp2_with fail
    refine (areWords_any _ _ _ _ _ hr2).mono ?_
    rintro e w1 ⟨rfl, e1⟩
    rw [HC.out.1.1]
    go_wp2_with fail
    refine (implIsWord_any _ _ (by omega)).mono ?_
    rintro e w2 ⟨rfl, e2⟩
    rw [HC.out.1.2.1]
    go_wp2_with (first | (go_at_call 52; refine (within_any _ _ _ _).mono ?_; rintro e w' ⟨rfl, rfl⟩; rw [HC.out.1.2.2]))
    go_ret2
    rw [RetLC, HC.out.2.1, HC.out.2.2]
    exact ⟨_, rfl, NewI.nil _ _ (e1.trans e2)⟩
  · obtain ⟨hm0, hm1⟩ := inB_iff.1 h3
    obtain ⟨M, rfl⟩ := Int.eq_ofNat_of_zero_le hm0
    have HC := Lib.hid (codeW_ok h0 h1 h2 h3)
    have HZ := Lib.hid (And.intro (And.intro h0 (And.intro h1 h3)) (And.intro True.intro h2))
    have hM : M ≤ 16 := by omega
    have q1 : IntKind.i64.wrap ((M : Int) + 1) = (M : Int) + 1 := IntWalk.i64_in _ (by omega)
    clear h0 h1 h3 h2 hm0 hm1
    go_enter Tryd.func20, Tryd.ntmps20
    go_wp2_with fail
    refine (areWords_any _ _ _ _ _ hr2).mono ?_
    rintro e w1 ⟨rfl, e1⟩
    rw [HZ.out.1.1]
    go_wp2_with fail
    refine (implIsWord_any _ _ (by omega)).mono ?_
    rintro e w2 ⟨rfl, e2⟩
    rw [HZ.out.1.2.1]
    go_wp2_with (first | (go_at_call 52; refine (within_any _ _ _ _).mono ?_; rintro e w' ⟨rfl, rfl⟩; rw [HZ.out.1.2.2]))
    go_loopw [8, 31] (fun v i wr => ∃ d : Nat, d ≤ M + 1 ∧ i = .int .i64 d ∧ OwnV wr w.heap.size v (nwT ls s d) ∧ Ext w wr) (fun _ i _ => M + 1 - (intOf i).toNat)
    case atStart => exact ⟨0, Nat.zero_le _, rfl, OwnV.isNil _ _, e1.trans e2⟩
    case round =>
      obtain ⟨d, hd, rfl, hov, hb0⟩ := hrel
      have HV := Lib.hid hov
      clear hov
      by_cases hld : d < M + 1
      · have hdi : (d : Int) < (M : Int) + 1 := by omega
        have hlt0 := nwT_len ls s d
        have hlt1 : (nwT ls s d).length ≤ 17 * 20 := Nat.le_trans hlt0 (Nat.mul_le_mul (by omega) HZ.out.2.2)
        clear hlt0
        go_wp2
        go_loopw [8, 36] (fun v i wi => ∃ k : Nat, k ≤ m ∧ i = .int .i64 k ∧ OwnV wi w.heap.size v (nwT ls s d ++ selN k (nwP ls s d)) ∧ Ext w wi) (fun _ i _ => m - (intOf i).toNat)
        case atStart => exact ⟨0, Nat.zero_le _, rfl, by simpa [selN] using HV.out, hb0⟩
        case round =>
          obtain ⟨k, hk, rfl, ⟨a1, n1, c1, rfl, ho⟩, hb⟩ := hrel
          by_cases hlt : k < m
          · have hn1 : n1 ≤ 17 * 20 + k := by
              have h1 := ho.rd.len
              have h2 := selN_len k (nwP ls s d)
              rw [List.length_append] at h1
              omega
            obtain ⟨b, o, rfl, hbl, hc⟩ := (hr2.ext hb).at (by omega)
            have hck := hc k hlt
            have hsz := hr2.size hlt
            have hki : (k : Int) < m := by omega
            clear hc
            go_wp2_with fail
            refine (editDistance_any _ _ _ (by omega) (by omega)).mono ?_
            rintro e w2 ⟨rfl, e2⟩
            have hb' := hb.trans e2
            have ho' := ho.ext e2
            cases h : nwP ls s d k
            · have hy := selN_no h
              have HH := Lib.hid (And.intro h hy)
              have hbe : (ed (nthS ls k) s (nthS ls k).size s.size == (d : Int)) = false := h
              clear h hy
              go_wp2
              go_roundw
              case rel => exact ⟨k + 1, by omega, by go_num, ⟨_, _, _, rfl, by rw [HH.out.2]; exact ho'⟩, hb'⟩
              case measure => simp [intOf]; omega
            · have hy := selN_yes h
              have HH := Lib.hid (And.intro h hy)
              have hbe : (ed (nthS ls k) s (nthS ls k).size s.size == (d : Int)) = true := h
              clear h hy
              go_wp2_with (first | (at_builtin; refine wpList_appI rfl _ _ rfl w.heap.size _ n1 _ rfl (ho'.alloc _) _ 1 _ [(k : Int)] rfl (RdI.new1 _ _ _) (by omega) (hb'.le_alloc _) ?_; intro a2 c2 w4 hown hgrow; have hb2 := hb'.app ho' (Nat.le_refl _) hgrow; have HO := Lib.hid hown; clear hown))
              go_roundw
              case rel => exact ⟨k + 1, by omega, by go_num, ⟨_, _, _, rfl, by rw [HH.out.2, ← List.append_assoc]; exact HO.out⟩, hb2⟩
              case measure => simp [intOf]; omega
          · obtain rfl : k = m := by omega
            have hnew : nwT ls s (d + 1) = nwT ls s d ++ selN k (nwP ls s d) := by rw [nwT_succ, hln2]
            have HN := Lib.hid hnew
            clear hnew
            go_wp2
            go_roundw
            case rel => exact ⟨d + 1, by omega, by go_num, ⟨_, _, _, rfl, by rw [HN.out]; exact ho⟩, hb⟩
            case measure => simp [intOf]; omega
      · obtain rfl : d = M + 1 := by omega
        obtain ⟨a1, n1, c1, rfl, ho⟩ := HV.out
        have hdi : ¬ ((M : Int) + 1) < (M : Int) + 1 := by omega
        go_wp2
        go_ret2
        rw [RetLC, HC.out.2, HC.out.1]
        exact ⟨_, rfl, _, _, _, rfl, ho, hb0⟩

set_option maxRecDepth 100000 in
set_option maxHeartbeats 2000000 in
theorem specNearestWords_any (a2 : Option Addr) (m c2 : Nat) (s : ByteArray) (most : Int) (ls : List ByteArray) (w : World) (hr2 : RdS w a2 m ls) (hs : s.size ≤ 1073741824) :
    Calls Tryd.prog 21 #[.slice a2 m c2, .string s, .int .i64 most] w (RetLC w (nwL ls s most) (codeW ls s most)) := by
  have hm := hr2.le
  have hln2 := hr2.len
  obtain ⟨i0, hi0, hz0, hz1, hz2⟩ := info_parts Tryd.info_i64
  have hsz : soundB (List.replicate 26 0) = true := by decide
  cases h0 : wordsB ls
  · have hk := codeS_bad (t := List.replicate 26 0) (s := s) (.inr (.inr h0))
    have HC := Lib.hid (And.intro hk (codeW_bad (s := s) (m := most) (.inl h0)))
    clear h0 hk hsz
    go_enter Tryd.func21, Tryd.ntmps21
    go_wp2_with (first | (at_make; refine wpList_make_full _ rfl _ _ 22 rfl w.heap.size 2 i0 (.int .i64 0) 1 Tryd.underlying22 hi0 hz0 hz1 _ _ _ _ 26 rfl rfl (by omega) (by omega) (by rw [hz2]; omega) (by simp [maxLen]) (Nat.le_refl _) ?_; intro w1 hown hgrow) | fail)
    have hx1 := (Ext.refl w).grown0 hgrow
    have hrz : RdI w1 (some ⟨w.heap.size, 0, none⟩) 26 (List.replicate 26 0) := (show OwnI w1 w.heap.size (some ⟨w.heap.size, 0, none⟩) 26 26 (List.replicate 26 0) from ⟨by have e := toList_madeCells_one (.int .i64 0) 26; simpa [Value.cells, e] using hown, by decide⟩).rd
    refine (l07Code_any _ _ _ _ _ _ _ _ _ _ hrz (hr2.ext hx1) (by omega)).mono ?_
    rintro e w2 ⟨rfl, rfl⟩
    rw [HC.out.1]
    go_wp2
    go_ret2
    rw [RetLC, HC.out.2.1, HC.out.2.2]
    exact ⟨_, rfl, NewI.nil _ _ hx1⟩
  cases h1 : wordB s
  · have hk := codeS_bad (t := List.replicate 26 0) (ls := ls) (.inr (.inl h1))
    have HC := Lib.hid (And.intro hk (codeW_bad (ls := ls) (m := most) (.inr h1)))
    clear h0 h1 hk hsz
    go_enter Tryd.func21, Tryd.ntmps21
    go_wp2_with (first | (at_make; refine wpList_make_full _ rfl _ _ 22 rfl w.heap.size 2 i0 (.int .i64 0) 1 Tryd.underlying22 hi0 hz0 hz1 _ _ _ _ 26 rfl rfl (by omega) (by omega) (by rw [hz2]; omega) (by simp [maxLen]) (Nat.le_refl _) ?_; intro w1 hown hgrow) | fail)
    have hx1 := (Ext.refl w).grown0 hgrow
    have hrz : RdI w1 (some ⟨w.heap.size, 0, none⟩) 26 (List.replicate 26 0) := (show OwnI w1 w.heap.size (some ⟨w.heap.size, 0, none⟩) 26 26 (List.replicate 26 0) from ⟨by have e := toList_madeCells_one (.int .i64 0) 26; simpa [Value.cells, e] using hown, by decide⟩).rd
    refine (l07Code_any _ _ _ _ _ _ _ _ _ _ hrz (hr2.ext hx1) (by omega)).mono ?_
    rintro e w2 ⟨rfl, rfl⟩
    rw [HC.out.1]
    go_wp2
    go_ret2
    rw [RetLC, HC.out.2.1, HC.out.2.2]
    exact ⟨_, rfl, NewI.nil _ _ hx1⟩
  by_cases h2n : ¬ ls.length ≤ 20
  · have hk := codeS_long hsz h1 h0 h2n
    have HC := Lib.hid (And.intro hk (codeW_long (m := most) h0 h1 h2n))
    clear h0 h1 hk hsz
    go_enter Tryd.func21, Tryd.ntmps21
    go_wp2_with (first | (at_make; refine wpList_make_full _ rfl _ _ 22 rfl w.heap.size 2 i0 (.int .i64 0) 1 Tryd.underlying22 hi0 hz0 hz1 _ _ _ _ 26 rfl rfl (by omega) (by omega) (by rw [hz2]; omega) (by simp [maxLen]) (Nat.le_refl _) ?_; intro w1 hown hgrow) | fail)
    have hx1 := (Ext.refl w).grown0 hgrow
    have hrz : RdI w1 (some ⟨w.heap.size, 0, none⟩) 26 (List.replicate 26 0) := (show OwnI w1 w.heap.size (some ⟨w.heap.size, 0, none⟩) 26 26 (List.replicate 26 0) from ⟨by have e := toList_madeCells_one (.int .i64 0) 26; simpa [Value.cells, e] using hown, by decide⟩).rd
    refine (l07Code_any _ _ _ _ _ _ _ _ _ _ hrz (hr2.ext hx1) (by omega)).mono ?_
    rintro e w2 ⟨rfl, rfl⟩
    rw [HC.out.1]
    go_wp2
    go_ret2
    rw [RetLC, HC.out.2.1, HC.out.2.2]
    exact ⟨_, rfl, NewI.nil _ _ hx1⟩
  have h2 : ls.length ≤ 20 := by omega
  clear h2n
  have hk := codeS_ok hsz h1 h0 h2
  cases h3 : inB most 0 16
  · have HC := Lib.hid (And.intro (And.intro hk h3) (codeW_range h0 h1 h2 h3))
    clear h0 h1 h3 hk hsz
    go_enter Tryd.func21, Tryd.ntmps21
    go_wp2_with (first | (at_make; refine wpList_make_full _ rfl _ _ 22 rfl w.heap.size 2 i0 (.int .i64 0) 1 Tryd.underlying22 hi0 hz0 hz1 _ _ _ _ 26 rfl rfl (by omega) (by omega) (by rw [hz2]; omega) (by simp [maxLen]) (Nat.le_refl _) ?_; intro w1 hown hgrow) | fail)
    have hx1 := (Ext.refl w).grown0 hgrow
    have hrz : RdI w1 (some ⟨w.heap.size, 0, none⟩) 26 (List.replicate 26 0) := (show OwnI w1 w.heap.size (some ⟨w.heap.size, 0, none⟩) 26 26 (List.replicate 26 0) from ⟨by have e := toList_madeCells_one (.int .i64 0) 26; simpa [Value.cells, e] using hown, by decide⟩).rd
    refine (l07Code_any _ _ _ _ _ _ _ _ _ _ hrz (hr2.ext hx1) (by omega)).mono ?_
    rintro e w2 ⟨rfl, rfl⟩
    rw [HC.out.1.1]
    go_wp2_with (first | (go_at_call 54; refine (l01In_any _ _ _ _).mono ?_; rintro e w' ⟨rfl, rfl⟩; rw [HC.out.1.2]))
    go_ret2
    rw [RetLC, HC.out.2.1, HC.out.2.2]
    exact ⟨_, rfl, NewI.nil _ _ hx1⟩
  · obtain ⟨hm0, hm1⟩ := inB_iff.1 h3
    obtain ⟨M, rfl⟩ := Int.eq_ofNat_of_zero_le hm0
    have HC := Lib.hid (codeW_ok h0 h1 h2 h3)
    have HZ := Lib.hid (And.intro (And.intro hk h3) (And.intro True.intro h2))
    have hm20 : m ≤ 20 := by omega
    have hM : M ≤ 16 := by omega
    clear h0 h1 h3 h2 hm0 hm1 hk hsz
    go_enter Tryd.func21, Tryd.ntmps21
    go_wp2_with (first | (at_make; refine wpList_make_full _ rfl _ _ 22 rfl w.heap.size 2 i0 (.int .i64 0) 1 Tryd.underlying22 hi0 hz0 hz1 _ _ _ _ 26 rfl rfl (by omega) (by omega) (by rw [hz2]; omega) (by simp [maxLen]) (Nat.le_refl _) ?_; intro w1 hown hgrow) | fail)
    have hx1 := (Ext.refl w).grown0 hgrow
    have hrz : RdI w1 (some ⟨w.heap.size, 0, none⟩) 26 (List.replicate 26 0) := (show OwnI w1 w.heap.size (some ⟨w.heap.size, 0, none⟩) 26 26 (List.replicate 26 0) from ⟨by have e := toList_madeCells_one (.int .i64 0) 26; simpa [Value.cells, e] using hown, by decide⟩).rd
    refine (l07Code_any _ _ _ _ _ _ _ _ _ _ hrz (hr2.ext hx1) (by omega)).mono ?_
    rintro e w2 ⟨rfl, rfl⟩
    rw [HZ.out.1.1]
    go_wp2_with (first | (go_at_call 54; refine (l01In_any _ _ _ _).mono ?_; rintro e w' ⟨rfl, rfl⟩; rw [HZ.out.1.2]))
    go_loopw [9, 10] (fun v i wr => ∃ d : Nat, d ≤ M + 1 ∧ i = .int .i64 d ∧ OwnV wr w.heap.size v (nwT ls s d) ∧ Ext w wr) (fun _ i _ => M + 1 - (intOf i).toNat)
    case atStart => exact ⟨0, Nat.zero_le _, rfl, by exact ⟨_, _, _, rfl, OwnI.lit0 _ hx1.size, by decide⟩, hx1.alloc _⟩
    case round =>
      obtain ⟨d, hd, rfl, hov, hb0⟩ := hrel
      have HV := Lib.hid hov
      clear hov
      by_cases hld : d < M + 1
      · have hdi : (d : Int) ≤ (M : Int) := by omega
        have hlt0 := nwT_len ls s d
        have hlt1 : (nwT ls s d).length ≤ 17 * 20 := Nat.le_trans hlt0 (Nat.mul_le_mul (by omega) HZ.out.2.2)
        clear hlt0
        go_wp2
        go_loopw [9, 11] (fun v i wi => ∃ k : Nat, k ≤ m ∧ i = .int .i64 k ∧ OwnV wi w.heap.size v (nwT ls s d ++ selN k (nwP ls s d)) ∧ Ext w wi) (fun _ i _ => m - (intOf i).toNat)
        case atStart => exact ⟨0, Nat.zero_le _, rfl, by simpa [selN] using HV.out, hb0⟩
        case round =>
          obtain ⟨k, hk, rfl, ⟨a1, n1, c1, rfl, ho⟩, hb⟩ := hrel
          by_cases hlt : k < m
          · have hn1 : n1 ≤ 17 * 20 + k := by
              have h1 := ho.rd.len
              have h2 := selN_len k (nwP ls s d)
              rw [List.length_append] at h1
              omega
            obtain ⟨b, o, rfl, hbl, hc⟩ := (hr2.ext hb).at (by omega)
            have hck := hc k hlt
            have hsz := hr2.size hlt
            have hki : (k : Int) < m := by omega
            clear hc
            go_wp2_with fail
            refine (l01Distance_any _ _ _ (by omega) (by omega)).mono ?_
            rintro e w2 ⟨rfl, e2⟩
            have hb' := hb.trans e2
            have ho' := ho.ext e2
            cases h : nwP ls s d k
            · have hy := selN_no h
              have HH := Lib.hid (And.intro h hy)
              have hbe : (ed (nthS ls k) s (nthS ls k).size s.size == (d : Int)) = false := h
              clear h hy
              go_wp2
              go_roundw
              case rel => exact ⟨k + 1, by omega, by go_num, ⟨_, _, _, rfl, by rw [HH.out.2]; exact ho'⟩, hb'⟩
              case measure => simp [intOf]; omega
            · have hy := selN_yes h
              have HH := Lib.hid (And.intro h hy)
              have hbe : (ed (nthS ls k) s (nthS ls k).size s.size == (d : Int)) = true := h
              clear h hy
              go_wp2_with (first | (at_builtin; refine wpList_appI rfl _ _ rfl w.heap.size _ n1 _ rfl (ho'.alloc _) _ 1 _ [(k : Int)] rfl (RdI.new1 _ _ _) (by omega) (hb'.le_alloc _) ?_; intro a2 c2 w4 hown hgrow; have hb2 := hb'.app ho' (Nat.le_refl _) hgrow; have HO := Lib.hid hown; clear hown))
              go_roundw
              case rel => exact ⟨k + 1, by omega, by go_num, ⟨_, _, _, rfl, by rw [HH.out.2, ← List.append_assoc]; exact HO.out⟩, hb2⟩
              case measure => simp [intOf]; omega
          · obtain rfl : k = m := by omega
            have hnew : nwT ls s (d + 1) = nwT ls s d ++ selN k (nwP ls s d) := by rw [nwT_succ, hln2]
            have HN := Lib.hid hnew
            clear hnew
            go_wp2
            go_roundw
            case rel => exact ⟨d + 1, by omega, by go_num, ⟨_, _, _, rfl, by rw [HN.out]; exact ho⟩, hb⟩
            case measure => simp [intOf]; omega
      · obtain rfl : d = M + 1 := by omega
        obtain ⟨a1, n1, c1, rfl, ho⟩ := HV.out
        have hdi : ¬ ((M : Int) + 1) ≤ (M : Int) := by omega
        go_wp2
        go_ret2
        rw [RetLC, HC.out.2, HC.out.1]
        exact ⟨_, rfl, _, _, _, rfl, ho, hb0⟩

end Go.Proofs.YtfglmoedicijkaaDoor

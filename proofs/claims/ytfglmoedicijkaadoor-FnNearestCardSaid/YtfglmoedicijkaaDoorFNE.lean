/-
  FnNearest returns true for every code: the walk.
-/
import Derived.Test.YtfglmoedicijkaaDoorDT
import Derived.Test.YtfglmoedicijkaaDoorNWL
import Derived.Test.YtfglmoedicijkaaDoorS1
import Derived.Test.YtfglmoedicijkaaDoorW2
namespace Go.Proofs.YtfglmoedicijkaaDoor.fnNearest
open Go.ChangeShapes Go.WideShapes Go.ChangeAt Go.RowKit

theorem sharp_own {a b : List Int} (h : sharpC a b = 0) : sharpC a a = 0 ∧ sharpR a a = true := by
  have h1 : soundB a = true := by
    rw [sharpC] at h
    by_cases hc : soundB a = true ∧ soundB b = true
    · exact hc.1
    · rw [if_neg hc] at h; cases h
  refine ⟨if_pos ⟨h1, h1⟩, ?_⟩
  rw [sharpR, if_pos ⟨h1, h1⟩]
  refine sharpB_good fun i _ k _ => ?_
  rw [pairB, bne]
  cases (nth a i == nth a k) <;> rfl

theorem rd_two (w : World) (x y : ByteArray) (hx : x.size ≤ 1073741824) (hy : y.size ≤ 1073741824) (e : TypeId) : RdS (w.alloc (.cells #[.string x, .string y] e)) (some ⟨w.heap.size, 0, none⟩) 2 [x, y] := by
  refine ⟨⟨rfl, by decide, .inr ⟨_, _, rfl, by simp, fun j u hu => ?_⟩⟩, fun s hs => ?_⟩
  · match j, hu with
    | 0, hu => simpa [layS, World.cell?_alloc_at] using hu
    | 1, hu => simpa [layS, World.cell?_alloc_at] using hu
  · simp only [List.mem_cons, List.mem_nil_iff, or_false] at hs
    rcases hs with rfl | rfl
    · exact hx
    · exact hy

set_option maxRecDepth 100000 in
set_option maxHeartbeats 1000000 in
theorem implEditDistance_any (s t : ByteArray) (w : World) (hs : wordB s = true) (ht : wordB t = true) :
    Calls Tryd.prog 26 #[.string s, .string t] w fun e w' => e = .returned (.tuple #[.int .i64 (ed s t s.size t.size), .int .i64 0]) ∧ Ext w w' := by
  have xb := (Ext.refl w).alloc (.cells #[.string s, .string t] 9)
  have h1 := (wordB_size hs).2
  have h2 := (wordB_size ht).2
  have hr2 := rd_two w s t (by omega) (by omega) 9
  have HW := Lib.hid (show wordsB [s, t] = true by simp [wordsB, hs, ht])
  clear hs ht
  go_enter Tryd.func26, Tryd.ntmps26
  go_wp2_with fail
  refine (areWords_any _ _ _ _ _ hr2).mono ?_
  rintro e w1 ⟨rfl, e1⟩
  rw [HW.out]
  go_wp2_with fail
  refine (editDistance_any _ _ _ (by omega) (by omega)).mono ?_
  rintro e w2 ⟨rfl, e2⟩
  go_wp2
  go_ret2
  exact ⟨rfl, (xb.trans e1).trans e2⟩

set_option maxRecDepth 100000 in
set_option maxHeartbeats 4000000 in
theorem walk (a_code : Option Addr) (n_code c_code : Nat) (z_code : List Int) (w : World) (hi_code : InBy w a_code n_code z_code) :
    Calls Tryd.prog 4 #[.slice a_code n_code c_code] w fun e w' => e = .returned (.bool true) ∧ Ext w w' := by
  by_cases hbig : (4096 : Int) < n_code
  · go_enter Tryd.func4, Tryd.ntmps4
    go_wp2_with (go_at_call 18; refine (big_any _ _ _ _).mono ?_; rintro e w' ⟨rfl, rfl⟩)
    go_ret
    exact ⟨rfl, Ext.refl _⟩
  have hr := hi_code.rdBy (by omega)
  clear hi_code
  go_enter Tryd.func4, Tryd.ntmps4
  go_wp2_with (go_at_call 18; refine (big_any _ _ _ _).mono ?_; rintro e w' ⟨rfl, rfl⟩)
  clear hbig
  refine (drawNearestWords_any _ _ _ _ _ hr).mono ?_
  rintro e w1 ⟨a1, c1, ls, s, m, rfl, hl1, o1, hs, x1⟩
  have hs2 : s.size ≤ 1073741824 := by omega
  have r1 := o1.rd
  clear o1
  go_wp2_with fail
  refine (implNearestWords_any _ _ _ _ _ _ _ r1 hs2).mono ?_
  rintro e w2 ⟨v2, rfl, a2, n2, c2, rfl, o2, x2⟩
  have r2 := o2.rd
  clear o2
  replace r1 := r1.ext x2
  have X := x1.trans x2
  go_wp2_with fail
  refine (specNearestWords_any _ _ _ _ _ _ _ r1 hs2).mono ?_
  rintro e w3 ⟨v3, rfl, a3, n3, c3, rfl, o3, x3⟩
  have r3 := o3.rd
  clear o3
  obtain rfl : n2 = n3 := r2.len.symm.trans r3.len
  replace r1 := r1.ext x3
  replace r2 := r2.ext x3
  replace X := X.trans x3
  go_wp2_with fail
  refine (drawSharperTable_any _ _ _ _ _ (hr.ext X)).mono ?_
  rintro e w4 ⟨a4, n4, c4, xs, a5, n5, c5, ys, rfl, hn4, hn5, r4, r5, x4⟩
  replace r1 := r1.ext x4
  replace r2 := r2.ext x4
  replace r3 := r3.ext x4
  replace X := X.trans x4
  go_wp2_with fail
  refine (implSharperTable_any _ _ _ _ _ _ _ _ _ r4 r5).mono ?_
  rintro e w5 ⟨rfl, x5⟩
  replace r1 := r1.ext x5
  replace r2 := r2.ext x5
  replace r3 := r3.ext x5
  replace r4 := r4.ext x5
  replace r5 := r5.ext x5
  replace X := X.trans x5
  go_wp2_with fail
  refine (specSharperTable_any _ _ _ _ _ _ _ _ _ r4 r5).mono ?_
  rintro e w6 ⟨rfl, x6⟩
  replace r1 := r1.ext x6
  replace r2 := r2.ext x6
  replace r3 := r3.ext x6
  replace r4 := r4.ext x6
  replace X := X.trans x6
  clear r5
  go_wp2_with fail
  refine (likeInts_same _ _ _ _ _ _ _ r2 r3).mono ?_
  rintro e w7 ⟨rfl, s7⟩
  replace r1 := r1.ext s7.ext
  replace r2 := r2.ext s7.ext
  replace r4 := r4.ext s7.ext
  replace X := X.trans s7.ext
  clear r3
  cases h1 : (sharpC xs ys == 0)
  · cases h2 : (codeW ls s m == 0)
    · go_wp2
      go_ret
      exact ⟨rfl, X⟩
    · have h20 : codeW ls s m = 0 := by simpa using h2
      rw [h20]
      have HN := Lib.hid (fun k hk => nw_at (ls := ls) (s := s) (m := m) (by simpa using h2) (k := k) hk)
      have hln2 := r2.len
      have hm2 := r2.le
      have hln1 := r1.len
      have HR := Lib.hid (And.intro r1 (And.intro r2 X))
      clear r1 r2 r4 X h2 h20
      rename World => wb
      go_wp2
      go_loopw [18, 19, 20, 21] (fun d i _ _ wr => ∃ k : Nat, k ≤ n2 ∧ i = .int .i64 k ∧ (∃ z : Int, d = .int .i64 z ∧ (z = -1 ∨ (0 < k ∧ z = nwD ls s (nth (nwL ls s m) (k - 1))))) ∧ Ext wb wr) (fun _ i _ _ _ => n2 - (intOf i).toNat)
      case atStart => exact ⟨0, Nat.zero_le _, rfl, ⟨-1, rfl, .inl rfl⟩, Ext.refl _⟩
      case round =>
        obtain ⟨k, hk, rfl, ⟨z, rfl, hz⟩, hx⟩ := hrel
        by_cases hlt : k < n2
        · obtain ⟨hw1, hw2, i, hi, hil, d0, d1, d2⟩ := HN.out k (by omega)
          obtain ⟨b2, o2, ea, hb2, hA2⟩ := (HR.out.2.1.ext hx).at (by omega)
          have hck := hA2 k hlt
          rw [hi] at hck
          obtain ⟨b1, o1, eb, hb1, hA1⟩ := (HR.out.1.ext hx).at (by omega)
          have hci := hA1 i (by omega)
          subst ea eb
          have hki : (k : Int) < n2 := by omega
          have hii : (i : Int) < ls.length := by omega
          have hzd : ¬ nwD ls s i < z := by
            rcases hz with e | ⟨e1, e2⟩
            · omega
            · have := d2 e1; omega
          have hdm : ¬ m < nwD ls s i := by omega
          have HW := Lib.hid (And.intro (wordsB_at hw1 hil) (And.intro hw2 hi))
          clear hA1 hA2 hz hi d2 hw1 hw2
          go_wp2_with fail
          refine (implEditDistance_any _ _ _ HW.out.1 HW.out.2.1).mono ?_
          rintro e w9 ⟨rfl, x9⟩
          rw [show ed (nthS ls i) s (nthS ls i).size s.size = nwD ls s i by rw [nwD, Int.toNat_natCast]]
          go_wp2
          go_roundw
          case rel => exact ⟨k + 1, by omega, by go_num, ⟨_, rfl, .inr ⟨by omega, by rw [Nat.add_sub_cancel, HW.out.2.2]⟩⟩, hx.trans x9⟩
          case measure => simp [intOf]; omega
        · go_wp2
          go_ret
          exact ⟨rfl, HR.out.2.2.trans hx⟩
  · have h0 : sharpC xs ys = 0 := by simpa using h1
    obtain ⟨q1, q2⟩ := sharp_own h0
    have HQ := Lib.hid (And.intro q1 q2)
    clear q1 q2 h0
    go_wp2_with fail
    refine (implSharperTable_any _ _ _ _ _ _ _ _ _ r4 r4).mono ?_
    rintro e w8 ⟨rfl, x8⟩
    rw [HQ.out.1, HQ.out.2]
    replace r1 := r1.ext x8
    replace r2 := r2.ext x8
    replace X := X.trans x8
    cases h2 : (codeW ls s m == 0)
    · go_wp2
      go_ret
      exact ⟨rfl, X⟩
    · have h20 : codeW ls s m = 0 := by simpa using h2
      rw [h20]
      have HN := Lib.hid (fun k hk => nw_at (ls := ls) (s := s) (m := m) (by simpa using h2) (k := k) hk)
      have hln2 := r2.len
      have hm2 := r2.le
      have hln1 := r1.len
      have HR := Lib.hid (And.intro r1 (And.intro r2 X))
      clear r1 r2 r4 X h2 h20
      rename World => wb
      go_wp2
      go_loopw [18, 19, 20, 21] (fun d i _ _ wr => ∃ k : Nat, k ≤ n2 ∧ i = .int .i64 k ∧ (∃ z : Int, d = .int .i64 z ∧ (z = -1 ∨ (0 < k ∧ z = nwD ls s (nth (nwL ls s m) (k - 1))))) ∧ Ext wb wr) (fun _ i _ _ _ => n2 - (intOf i).toNat)
      case atStart => exact ⟨0, Nat.zero_le _, rfl, ⟨-1, rfl, .inl rfl⟩, Ext.refl _⟩
      case round =>
        obtain ⟨k, hk, rfl, ⟨z, rfl, hz⟩, hx⟩ := hrel
        by_cases hlt : k < n2
        · obtain ⟨hw1, hw2, i, hi, hil, d0, d1, d2⟩ := HN.out k (by omega)
          obtain ⟨b2, o2, ea, hb2, hA2⟩ := (HR.out.2.1.ext hx).at (by omega)
          have hck := hA2 k hlt
          rw [hi] at hck
          obtain ⟨b1, o1, eb, hb1, hA1⟩ := (HR.out.1.ext hx).at (by omega)
          have hci := hA1 i (by omega)
          subst ea eb
          have hki : (k : Int) < n2 := by omega
          have hii : (i : Int) < ls.length := by omega
          have hzd : ¬ nwD ls s i < z := by
            rcases hz with e | ⟨e1, e2⟩
            · omega
            · have := d2 e1; omega
          have hdm : ¬ m < nwD ls s i := by omega
          have HW := Lib.hid (And.intro (wordsB_at hw1 hil) (And.intro hw2 hi))
          clear hA1 hA2 hz hi d2 hw1 hw2
          go_wp2_with fail
          refine (implEditDistance_any _ _ _ HW.out.1 HW.out.2.1).mono ?_
          rintro e w9 ⟨rfl, x9⟩
          rw [show ed (nthS ls i) s (nthS ls i).size s.size = nwD ls s i by rw [nwD, Int.toNat_natCast]]
          go_wp2
          go_roundw
          case rel => exact ⟨k + 1, by omega, by go_num, ⟨_, rfl, .inr ⟨by omega, by rw [Nat.add_sub_cancel, HW.out.2.2]⟩⟩, hx.trans x9⟩
          case measure => simp [intOf]; omega
        · go_wp2
          go_ret
          exact ⟨rfl, HR.out.2.2.trans hx⟩

end Go.Proofs.YtfglmoedicijkaaDoor.fnNearest

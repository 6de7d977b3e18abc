/-
  The code of links, places and a year; ParentIn.
-/
import Derived.Test.YtkljdmdlmhdpiaaDoorLA2
namespace Go.Proofs.YtkljdmdlmhdpiaaDoor
open Go.RowKit

def codeK (xs : List LinkV) (wb : Bool) (y : Int) : Int := if (linksB xs && wb) = true then (if inB y (-3000) 3000 = true then 0 else 2) else 1
theorem codeK_bad {xs : List LinkV} {lb : Bool} {y : Int} (h : linksB xs = false ∨ lb = false) : codeK xs lb y = 1 := by
  rw [codeK, if_neg]
  rcases h with h | h <;> simp [h]
theorem codeK_range {xs : List LinkV} {lb : Bool} {y : Int} (h : linksB xs = true) (h1 : lb = true) (h2 : inB y (-3000) 3000 = false) : codeK xs lb y = 2 := by
  rw [codeK, h, h1, h2]; rfl
theorem codeK_ok {xs : List LinkV} {lb : Bool} {y : Int} (h : linksB xs = true) (h1 : lb = true) (h2 : inB y (-3000) 3000 = true) : codeK xs lb y = 0 := by
  rw [codeK, h, h1, h2]; rfl
theorem codeK_zero {xs : List LinkV} {lb : Bool} {y : Int} (h : codeK xs lb y = 0) : linksB xs = true ∧ lb = true ∧ inB y (-3000) 3000 = true := by
  cases hn : linksB xs
  · rw [codeK_bad (.inl hn)] at h; cases h
  · cases hl : lb
    · rw [codeK_bad (.inr hl)] at h; cases h
    · cases hy : inB y (-3000) 3000
      · rw [codeK_range hn hl hy] at h; cases h
      · exact ⟨rfl, rfl, rfl⟩
theorem linksB_at {xs : List LinkV} (h : linksB xs = true) : (∀ k, k < xs.length → linkB (nthLink xs k) = true ∧ anyP (clashL (nthLink xs k)) (xs.take k) = false) ∧ xs.length ≤ 20 ∧ circ2 xs = false := by
  rw [linksB, Bool.and_eq_true, Bool.and_eq_true, firstsL, List.all_eq_true] at h
  refine ⟨fun k hk => ?_, of_decide_eq_true h.2.1, by simpa using h.2.2⟩
  have := h.1 k (List.mem_range.2 hk)
  rw [Bool.and_eq_true] at this
  exact ⟨this.1, by simpa using this.2⟩
theorem links_par {xs : List LinkV} (h : linksB xs = true) : ∀ x ∈ xs, x.parent ≠ ⟨#[]⟩ := fun x hx => by
  obtain ⟨j, hj, rfl⟩ := List.getElem_of_mem hx
  rw [← nthLink_eq hj]
  exact word_ne (linkB_word ((linksB_at h).1 j hj).1).2

set_option maxRecDepth 100000 in
set_option maxHeartbeats 400000 in
theorem l12Code_any (a : Option Addr) (n c : Nat) (s : ByteArray) (y : Int) (xs : List LinkV) (w : World) (hr : RdLink w a n xs) (hs : s.size ≤ 1073741824) (hn : n ≤ 1048577) :
    Calls Tryd.prog 27 #[.slice a n c, .string s, .int .i64 y] w fun e w' => e = .returned (.int .i64 (codeK xs (wordB s) y)) ∧ Ext w w' := by
  cases hk : linksB xs
  · have HN := Lib.hid hk
    clear hk
    go_enter Tryd.func27, Tryd.ntmps27
    go_wp2_with fail
    refine (specAreLinks_any _ _ _ _ _ hr hn).mono ?_
    rintro e w1 ⟨rfl, e1⟩
    rw [HN.out]
    go_wp2
    go_ret
    exact ⟨ret_int (codeK_bad (.inl HN.out)).symm, e1⟩
  cases hl : wordB s
  · have HN := Lib.hid hk
    have HL := Lib.hid hl
    clear hk hl
    go_enter Tryd.func27, Tryd.ntmps27
    go_wp2_with fail
    refine (specAreLinks_any _ _ _ _ _ hr hn).mono ?_
    rintro e w1 ⟨rfl, e1⟩
    rw [HN.out]
    go_wp2_with (first | (go_at_call 37; refine (specIsWord_any _ _ (by omega)).mono ?_; rintro e w' ⟨rfl, rfl⟩; rw [HL.out]))
    go_ret
    exact ⟨ret_int (codeK_bad (.inr rfl)).symm, e1⟩
  cases hy : inB y (-3000) 3000
  all_goals
    have HN := Lib.hid hk
    have HL := Lib.hid hl
    have HY := Lib.hid hy
    clear hk hl hy
    go_enter Tryd.func27, Tryd.ntmps27
    go_wp2_with fail
    refine (specAreLinks_any _ _ _ _ _ hr hn).mono ?_
    rintro e w1 ⟨rfl, e1⟩
    rw [HN.out]
    go_wp2_with (first | (go_at_call 37; refine (specIsWord_any _ _ (by omega)).mono ?_; rintro e w' ⟨rfl, rfl⟩; rw [HL.out]) | (go_at_call 46; refine (l02Year_any _ _).mono ?_; rintro e w' ⟨rfl, rfl⟩; rw [HY.out]))
    go_ret
  · exact ⟨ret_int (codeK_range HN.out rfl HY.out).symm, e1⟩
  · exact ⟨ret_int (codeK_ok HN.out rfl HY.out).symm, e1⟩

set_option maxRecDepth 100000 in
set_option maxHeartbeats 400000 in
theorem linkCode_any (a : Option Addr) (n c : Nat) (y : Int) (a2 : Option Addr) (m c2 : Nat) (ss : List ByteArray) (xs : List LinkV) (w : World) (hr : RdLink w a n xs) (hcap : n ≤ c) (hr2 : RdS w a2 m ss) (hn : n ≤ 1048577) :
    Calls Tryd.prog 31 #[.slice a n c, .int .i64 y, .slice a2 m c2] w fun e w' => e = .returned (.int .i64 (codeK xs (wordsB ss) y)) ∧ Ext w w' := by
  cases hk : linksB xs
  · have HN := Lib.hid hk
    clear hk
    go_enter Tryd.func31, Tryd.ntmps31
    go_wp2_with fail
    refine (implAreLinks_any _ _ _ _ _ hr hcap hn).mono ?_
    rintro e w1 ⟨rfl, e1⟩
    rw [HN.out]
    go_wp2
    go_ret
    exact ⟨ret_int (codeK_bad (.inl HN.out)).symm, e1⟩
  cases hl : wordsB ss
  · have HN := Lib.hid hk
    have HL := Lib.hid hl
    clear hk hl
    go_enter Tryd.func31, Tryd.ntmps31
    go_wp2_with fail
    refine (implAreLinks_any _ _ _ _ _ hr hcap hn).mono ?_
    rintro e w1 ⟨rfl, e1⟩
    rw [HN.out]
    go_wp2_with fail
    refine (areWords_any _ _ _ _ _ (hr2.ext e1)).mono ?_
    rintro e w2 ⟨rfl, e2⟩
    rw [HL.out]
    go_wp2
    go_ret
    exact ⟨ret_int (codeK_bad (.inr rfl)).symm, e1.trans e2⟩
  cases hy : inB y (-3000) 3000
  all_goals
    have HN := Lib.hid hk
    have HL := Lib.hid hl
    have HY := Lib.hid hy
    clear hk hl hy
    go_enter Tryd.func31, Tryd.ntmps31
    go_wp2_with fail
    refine (implAreLinks_any _ _ _ _ _ hr hcap hn).mono ?_
    rintro e w1 ⟨rfl, e1⟩
    rw [HN.out]
    go_wp2_with fail
    refine (areWords_any _ _ _ _ _ (hr2.ext e1)).mono ?_
    rintro e w2 ⟨rfl, e2⟩
    rw [HL.out]
    go_wp2_with (first | (go_at_call 47; refine (isYear_any _ _).mono ?_; rintro e w' ⟨rfl, rfl⟩; rw [HY.out]))
    go_ret
  · exact ⟨ret_int (codeK_range HN.out rfl HY.out).symm, e1.trans e2⟩
  · exact ⟨ret_int (codeK_ok HN.out rfl HY.out).symm, e1.trans e2⟩

theorem wordsB_one (s : ByteArray) : wordsB [s] = wordB s := by simp [wordsB]
theorem RdS.one (w : World) (x : ByteArray) (hx : x.size ≤ 1073741824) (e : TypeId) : RdS (w.alloc (.cells #[.string x] e)) (some ⟨w.heap.size, 0, none⟩) 1 [x] := ⟨RdG.new1 layS w x _ rfl e, by simpa using hx⟩

/-- What ParentIn answers. -/
def parC (xs : List LinkV) (s : ByteArray) (y : Int) : Int := if codeK xs (wordB s) y = 0 then (if parB xs s y = true then 0 else 4) else codeK xs (wordB s) y
def parV (xs : List LinkV) (s : ByteArray) (y : Int) : ByteArray := if codeK xs (wordB s) y = 0 then parT xs s y else ⟨#[]⟩
def RetSC (w : World) (s : ByteArray) (code : Int) (e : Ending) (w' : World) : Prop := e = .returned (.tuple #[.string s, .int .i64 code]) ∧ Ext w w'
theorem par_code {xs : List LinkV} {s : ByteArray} {y : Int} (h : codeK xs (wordB s) y ≠ 0) : parV xs s y = ⟨#[]⟩ ∧ parC xs s y = codeK xs (wordB s) y := ⟨if_neg h, if_neg h⟩
theorem par_no {xs : List LinkV} {s : ByteArray} {y : Int} (h : codeK xs (wordB s) y = 0) (h2 : parB xs s y = false) : parV xs s y = ⟨#[]⟩ ∧ parC xs s y = 4 := ⟨by rw [parV, if_pos h, parT_eq h2], by rw [parC, if_pos h, h2]; rfl⟩
theorem par_yes {xs : List LinkV} {s : ByteArray} {y : Int} (h : codeK xs (wordB s) y = 0) (h2 : parB xs s y = true) : parV xs s y = parT xs s y ∧ parC xs s y = 0 := ⟨by rw [parV, if_pos h], by rw [parC, if_pos h, h2]; rfl⟩

end Go.Proofs.YtkljdmdlmhdpiaaDoor

/-
  DoSoundAlike and MatchSounds on both sides.
-/
import Derived.Test.YtfglmoedicijkaaGreatDoorSO2
namespace Go.Proofs.YtfglmoedicijkaaGreatDoor
open Go.RowKit

theorem RdS.one (w : World) (x : ByteArray) (hx : x.size ≤ 1073741824) (e : TypeId) : RdS (w.alloc (.cells #[.string x] e)) (some ⟨w.heap.size, 0, none⟩) 1 [x] := ⟨RdG.new1 layS w x _ rfl e, by simpa using hx⟩
theorem RdS.two (w : World) (x y : ByteArray) (hx : x.size ≤ 1073741824) (hy : y.size ≤ 1073741824) (e : TypeId) : RdS (w.alloc (.cells #[.string x, .string y] e)) (some ⟨w.heap.size, 0, none⟩) 2 [x, y] := by
  refine ⟨⟨rfl, by decide, .inr ⟨_, _, rfl, by simp, fun j u hu => ?_⟩⟩, fun s hs => ?_⟩
  · match j, hu with
    | 0, hu => simpa [layS, World.cell?_alloc_at] using hu
    | 1, hu => simpa [layS, World.cell?_alloc_at] using hu
  · simp only [List.mem_cons, List.mem_nil_iff, or_false] at hs
    rcases hs with rfl | rfl
    · exact hx
    · exact hy
def alB (t : List Int) (a b : ByteArray) : Bool := if codeS t [a] b = 0 then (soundT t a).toList == (soundT t b).toList else false

set_option maxRecDepth 100000 in
set_option maxHeartbeats 400000 in
theorem specDoSoundAlike_any (a : Option Addr) (n c : Nat) (s s' : ByteArray) (t : List Int) (w : World) (hr : RdI w a n t) (hs : s.size ≤ 1073741824) (hs2 : s'.size ≤ 1073741824) :
    Calls Tryz.prog 8 #[.slice a n c, .string s, .string s'] w (RetBC w (alB t s s') (codeS t [s] s')) := by
  have xb := (Ext.refl w).alloc (.cells #[.string s] 9)
  have hr2 := RdS.one w s hs 9
  by_cases hc : codeS t [s] s' = 0
  · obtain ⟨h0, h1, h2, _⟩ := codeS_zero hc
    have HZ := Lib.hid (And.intro hc (And.intro (show alB t s s' = ((soundT t s).toList == (soundT t s').toList) by rw [alB, if_pos hc]) (And.intro h0 (And.intro h1 (show wordB s = true by simpa [wordsB] using h2)))))
    clear hc h0 h1 h2
    go_enter Tryz.func8, Tryz.ntmps8
    go_wp2_with fail
    refine (l07Code_any _ _ _ _ _ _ _ _ [s] _ (hr.ext xb) hr2 (by omega)).mono ?_
    rintro e w1 ⟨rfl, rfl⟩
    rw [HZ.out.1]
    go_wp2_with fail
    refine (l07Sound_any _ _ _ _ _ _ (hr.ext xb) HZ.out.2.2.1 HZ.out.2.2.2.2).mono ?_
    rintro e w2 ⟨rfl, e2⟩
    go_wp2_with fail
    refine (l07Sound_any _ _ _ _ _ _ (hr.ext (xb.trans e2)) HZ.out.2.2.1 HZ.out.2.2.2.1).mono ?_
    rintro e w3 ⟨rfl, e3⟩
    go_wp2
    go_ret2
    exact ⟨by rw [HZ.out.2.1, HZ.out.1]; rfl, (xb.trans e2).trans e3⟩
  · have hb : (codeS t [s] s' == 0) = false := by simpa using hc
    have HZ := Lib.hid (show alB t s s' = false by rw [alB, if_neg hc])
    clear hc
    go_enter Tryz.func8, Tryz.ntmps8
    go_wp2_with fail
    refine (l07Code_any _ _ _ _ _ _ _ _ [s] _ (hr.ext xb) hr2 (by omega)).mono ?_
    rintro e w1 ⟨rfl, rfl⟩
    go_wp2
    go_ret2
    exact ⟨by rw [HZ.out]; rfl, xb⟩

set_option maxRecDepth 100000 in
set_option maxHeartbeats 400000 in
theorem implDoSoundAlike_any (a : Option Addr) (n c : Nat) (s s' : ByteArray) (t : List Int) (w : World) (hr : RdI w a n t) (hs : s.size ≤ 1073741824) (hs2 : s'.size ≤ 1073741824) :
    Calls Tryz.prog 7 #[.slice a n c, .string s, .string s'] w (RetBC w (alB t s s') (codeS t [s] s')) := by
  have xb := (Ext.refl w).alloc (.cells #[.string s, .string s'] 9)
  have hr2 := RdS.two w s s' hs hs2 9
  cases h0 : soundB t
  · have hc := codeS_bad (ls := [s]) (s := s') (.inl h0)
    have HZ := Lib.hid (And.intro h0 (And.intro hc (show alB t s s' = false by rw [alB, hc]; rfl)))
    clear h0 hc
    go_enter Tryz.func7, Tryz.ntmps7
    go_wp2_with (first | (go_at_call 22; refine (implIsSoundTable_any _ _ _ _ _ hr).mono ?_; rintro e w' ⟨rfl, rfl⟩; rw [HZ.out.1]))
    go_ret2
    exact ⟨by rw [HZ.out.2.1, HZ.out.2.2]; rfl, Ext.refl _⟩
  cases h1 : wordsB [s, s']
  · have hc : codeS t [s] s' = 1 := codeS_bad (by
      cases hw : wordB s'
      · exact .inr (.inl rfl)
      · refine .inr (.inr ?_)
        simpa [wordsB, hw] using h1)
    have HZ := Lib.hid (And.intro h0 (And.intro h1 (And.intro hc (show alB t s s' = false by rw [alB, hc]; rfl))))
    clear h0 h1 hc
    go_enter Tryz.func7, Tryz.ntmps7
    go_wp2_with (first | (go_at_call 22; refine (implIsSoundTable_any _ _ _ _ _ hr).mono ?_; rintro e w' ⟨rfl, rfl⟩; rw [HZ.out.1]) | fail)
    refine (areWords_any _ _ _ _ _ hr2).mono ?_
    rintro e w1 ⟨rfl, e1⟩
    rw [HZ.out.2.1]
    go_wp2
    go_ret2
    exact ⟨by rw [HZ.out.2.2.1, HZ.out.2.2.2]; rfl, xb.trans e1⟩
  · have hws : wordB s = true ∧ wordB s' = true := by simpa [wordsB] using h1
    have hc := codeS_ok h0 hws.2 (ls := [s]) (by simp [wordsB, hws.1]) (by simp)
    have HZ := Lib.hid (And.intro h0 (And.intro h1 (And.intro hc (And.intro (show alB t s s' = ((soundT t s).toList == (soundT t s').toList) by rw [alB, if_pos hc]) hws))))
    clear h0 h1 hc hws
    go_enter Tryz.func7, Tryz.ntmps7
    go_wp2_with (first | (go_at_call 22; refine (implIsSoundTable_any _ _ _ _ _ hr).mono ?_; rintro e w' ⟨rfl, rfl⟩; rw [HZ.out.1]) | fail)
    refine (areWords_any _ _ _ _ _ hr2).mono ?_
    rintro e w1 ⟨rfl, e1⟩
    rw [HZ.out.2.1]
    go_wp2_with fail
    refine (soundOf_any _ _ _ _ _ _ (hr.ext (xb.trans e1)) HZ.out.1 HZ.out.2.2.2.2.1).mono ?_
    rintro e w2 ⟨rfl, e2⟩
    go_wp2_with fail
    refine (soundOf_any _ _ _ _ _ _ (hr.ext ((xb.trans e1).trans e2)) HZ.out.1 HZ.out.2.2.2.2.2).mono ?_
    rintro e w3 ⟨rfl, e3⟩
    go_wp2
    go_ret2
    exact ⟨by rw [HZ.out.2.2.1, HZ.out.2.2.2.1]; rfl, ((xb.trans e1).trans e2).trans e3⟩

/-! Words that sound like a word. -/
def msP (t : List Int) (ls : List ByteArray) (s : ByteArray) (i : Nat) : Bool := (soundT t (nthS ls i)).toList == (soundT t s).toList
def msL (t : List Int) (ls : List ByteArray) (s : ByteArray) : List Int := if codeS t ls s = 0 then selN ls.length (msP t ls s) else []

set_option maxRecDepth 100000 in
set_option maxHeartbeats 1000000 in
theorem specMatchSounds_any (a : Option Addr) (n c : Nat) (a2 : Option Addr) (m c2 : Nat) (s : ByteArray) (t : List Int) (ls : List ByteArray) (w : World) (hr : RdI w a n t) (hr2 : RdS w a2 m ls) (hs : s.size ≤ 1073741824) :
    Calls Tryz.prog 11 #[.slice a n c, .slice a2 m c2, .string s] w (RetLC w (msL t ls s) (codeS t ls s)) := by
  have hm := hr2.le
  have hln2 := hr2.len
  by_cases hc : codeS t ls s = 0
  · obtain ⟨h0, h1, h2, _⟩ := codeS_zero hc
    have HZ := Lib.hid (And.intro hc (And.intro (show msL t ls s = selN ls.length (msP t ls s) by rw [msL, if_pos hc]) (And.intro h0 (And.intro h1 (And.intro h2 True.intro)))))
    clear hc h0 h1 h2
    go_enter Tryz.func11, Tryz.ntmps11
    go_wp2_with fail
    refine (l07Code_any _ _ _ _ _ _ _ _ _ _ hr hr2 (by omega)).mono ?_
    rintro e w1 ⟨rfl, rfl⟩
    rw [HZ.out.1]
    go_wp2
    go_loopw [9, 10] (fun v i wr => ∃ k : Nat, k ≤ m ∧ i = .int .i64 k ∧ OwnV wr w.heap.size v (selN k (msP t ls s)) ∧ Ext w wr) (fun _ i _ => m - (intOf i).toNat)
    case atStart => exact ⟨0, Nat.zero_le _, rfl, OwnV.lit0 w (Nat.le_refl _), (Ext.refl _).alloc _⟩
    case round =>
      obtain ⟨k, hk, rfl, ⟨a1, n1, c1, rfl, ho⟩, hb⟩ := hrel
      by_cases hlt : k < m
      · have hn1 : n1 ≤ k := by
          have h1 := ho.rd.len
          have h2 := selN_len k (msP t ls s)
          omega
        obtain ⟨b, o, rfl, hbl, hc⟩ := (hr2.ext hb).at (by omega)
        have hck := hc k hlt
        have hki : (k : Int) < m := by omega
        clear hc
        go_wp2_with fail
        refine (l07Sound_any _ _ _ _ _ _ (hr.ext hb) HZ.out.2.2.1 (wordsB_at HZ.out.2.2.2.2.1 (by omega))).mono ?_
        rintro e w2 ⟨rfl, e2⟩
        go_wp2_with fail
        refine (l07Sound_any _ _ _ _ _ _ (hr.ext (hb.trans e2)) HZ.out.2.2.1 HZ.out.2.2.2.1).mono ?_
        rintro e w3 ⟨rfl, e3⟩
        have hb' := (hb.trans e2).trans e3
        have ho' := (ho.ext e2).ext e3
        cases h : msP t ls s k
        · have hy := selN_no h
          have HH := Lib.hid (And.intro h hy)
          have hbe : ((soundT t (nthS ls k)).toList == (soundT t s).toList) = false := h
          clear h hy
          go_wp2
          go_roundw
          case rel => exact ⟨k + 1, by omega, by go_num, ⟨_, _, _, rfl, by rw [HH.out.2]; exact ho'⟩, hb'⟩
          case measure => simp [intOf]; omega
        · have hy := selN_yes h
          have HH := Lib.hid (And.intro h hy)
          have hbe : ((soundT t (nthS ls k)).toList == (soundT t s).toList) = true := h
          clear h hy
          go_wp2_with (first | (at_builtin; refine wpList_appI rfl _ _ rfl w.heap.size _ n1 _ rfl (ho'.alloc _) _ 1 _ [(k : Int)] rfl (RdI.new1 _ _ _) (by omega) (hb'.le_alloc _) ?_; intro a2 c2 w4 hown hgrow; have hb2 := hb'.app ho' (Nat.le_refl _) hgrow; have HO := Lib.hid hown; clear hown))
          go_roundw
          case rel => exact ⟨k + 1, by omega, by go_num, ⟨_, _, _, rfl, by rw [HH.out.2]; exact HO.out⟩, hb2⟩
          case measure => simp [intOf]; omega
      · obtain rfl : k = m := by omega
        go_wp2
        go_ret2
        rw [RetLC, HZ.out.2.1, HZ.out.1]
        exact ⟨_, rfl, _, _, _, rfl, by rw [hln2]; exact ho, hb⟩
  · have hb : (codeS t ls s == 0) = false := by simpa using hc
    have HZ := Lib.hid (show msL t ls s = [] by rw [msL, if_neg hc])
    clear hc
    go_enter Tryz.func11, Tryz.ntmps11
    go_wp2_with fail
    refine (l07Code_any _ _ _ _ _ _ _ _ _ _ hr hr2 (by omega)).mono ?_
    rintro e w1 ⟨rfl, rfl⟩
    go_wp2
    go_ret2
    rw [RetLC, HZ.out]
    exact ⟨_, rfl, NewI.nil _ _ (Ext.refl _)⟩

set_option maxRecDepth 100000 in
set_option maxHeartbeats 1000000 in
theorem implMatchSounds_any (a : Option Addr) (n c : Nat) (a2 : Option Addr) (m c2 : Nat) (s : ByteArray) (t : List Int) (ls : List ByteArray) (w : World) (hr : RdI w a n t) (hr2 : RdS w a2 m ls) (hs : s.size ≤ 1073741824) :
    Calls Tryz.prog 10 #[.slice a n c, .slice a2 m c2, .string s] w (RetLC w (msL t ls s) (codeS t ls s)) := by
  have hm := hr2.le
  have hln2 := hr2.len
  cases h0 : soundB t
  · have hc := codeS_bad (ls := ls) (s := s) (.inl h0)
    have HZ := Lib.hid (And.intro h0 (And.intro hc (show msL t ls s = [] by rw [msL, hc]; rfl)))
    clear h0 hc
    go_enter Tryz.func10, Tryz.ntmps10
    go_wp2_with (first | (go_at_call 22; refine (implIsSoundTable_any _ _ _ _ _ hr).mono ?_; rintro e w' ⟨rfl, rfl⟩; rw [HZ.out.1]))
    go_ret2
    rw [RetLC, HZ.out.2.1, HZ.out.2.2]
    exact ⟨_, rfl, NewI.nil _ _ (Ext.refl _)⟩
  cases h2 : wordsB ls
  · have hc := codeS_bad (t := t) (s := s) (.inr (.inr h2))
    have HZ := Lib.hid (And.intro h0 (And.intro h2 (And.intro hc (show msL t ls s = [] by rw [msL, hc]; rfl))))
    clear h0 h2 hc
    go_enter Tryz.func10, Tryz.ntmps10
    go_wp2_with (first | (go_at_call 22; refine (implIsSoundTable_any _ _ _ _ _ hr).mono ?_; rintro e w' ⟨rfl, rfl⟩; rw [HZ.out.1]) | fail)
    refine (areWords_any _ _ _ _ _ hr2).mono ?_
    rintro e w1 ⟨rfl, e1⟩
    rw [HZ.out.2.1]
    go_wp2
    go_ret2
    rw [RetLC, HZ.out.2.2.1, HZ.out.2.2.2]
    exact ⟨_, rfl, NewI.nil _ _ e1⟩
  cases h1 : wordB s
  · have hc := codeS_bad (t := t) (ls := ls) (.inr (.inl h1))
    have HZ := Lib.hid (And.intro h0 (And.intro h2 (And.intro h1 (And.intro hc (show msL t ls s = [] by rw [msL, hc]; rfl)))))
    clear h0 h2 h1 hc
    go_enter Tryz.func10, Tryz.ntmps10
    go_wp2_with (first | (go_at_call 22; refine (implIsSoundTable_any _ _ _ _ _ hr).mono ?_; rintro e w' ⟨rfl, rfl⟩; rw [HZ.out.1]) | fail)
    refine (areWords_any _ _ _ _ _ hr2).mono ?_
    rintro e w1 ⟨rfl, e1⟩
    rw [HZ.out.2.1]
    go_wp2_with fail
    refine (implIsWord_any _ _ (by omega)).mono ?_
    rintro e w2 ⟨rfl, e2⟩
    rw [HZ.out.2.2.1]
    go_wp2
    go_ret2
    rw [RetLC, HZ.out.2.2.2.1, HZ.out.2.2.2.2]
    exact ⟨_, rfl, NewI.nil _ _ (e1.trans e2)⟩
  by_cases h3 : ls.length ≤ 20
  · have hc := codeS_ok h0 h1 h2 h3
    have hi : ¬ (20 : Int) < m := by omega
    have HZ := Lib.hid (And.intro hc (And.intro (show msL t ls s = selN ls.length (msP t ls s) by rw [msL, if_pos hc]) (And.intro h0 (And.intro h1 (And.intro h2 True.intro)))))
    clear hc h0 h1 h2
    go_enter Tryz.func10, Tryz.ntmps10
    go_wp2_with (first | (go_at_call 22; refine (implIsSoundTable_any _ _ _ _ _ hr).mono ?_; rintro e w' ⟨rfl, rfl⟩; rw [HZ.out.2.2.1]) | fail)
    refine (areWords_any _ _ _ _ _ hr2).mono ?_
    rintro e w1 ⟨rfl, e1⟩
    rw [HZ.out.2.2.2.2.1]
    go_wp2_with fail
    refine (implIsWord_any _ _ (by omega)).mono ?_
    rintro e w2 ⟨rfl, e2⟩
    rw [HZ.out.2.2.2.1]
    go_wp2
    go_loopw [8, 31] (fun v i wr => ∃ k : Nat, k ≤ m ∧ i = .int .i64 k ∧ OwnV wr w.heap.size v (selN k (msP t ls s)) ∧ Ext w wr) (fun _ i _ => m - (intOf i).toNat)
    case atStart => exact ⟨0, Nat.zero_le _, rfl, OwnV.isNil _ _, e1.trans e2⟩
    case round =>
      obtain ⟨k, hk, rfl, ⟨a1, n1, c1, rfl, ho⟩, hb⟩ := hrel
      by_cases hlt : k < m
      · have hn1 : n1 ≤ k := by
          have h1 := ho.rd.len
          have h2 := selN_len k (msP t ls s)
          omega
        obtain ⟨b, o, rfl, hbl, hc⟩ := (hr2.ext hb).at (by omega)
        have hck := hc k hlt
        have hki : (k : Int) < m := by omega
        clear hc
        go_wp2_with fail
        refine (soundOf_any _ _ _ _ _ _ (hr.ext hb) HZ.out.2.2.1 (wordsB_at HZ.out.2.2.2.2.1 (by omega))).mono ?_
        rintro e w2 ⟨rfl, e2⟩
        go_wp2_with fail
        refine (soundOf_any _ _ _ _ _ _ (hr.ext (hb.trans e2)) HZ.out.2.2.1 HZ.out.2.2.2.1).mono ?_
        rintro e w3 ⟨rfl, e3⟩
        have hb' := (hb.trans e2).trans e3
        have ho' := (ho.ext e2).ext e3
        cases h : msP t ls s k
        · have hy := selN_no h
          have HH := Lib.hid (And.intro h hy)
          have hbe : ((soundT t (nthS ls k)).toList == (soundT t s).toList) = false := h
          clear h hy
          go_wp2
          go_roundw
          case rel => exact ⟨k + 1, by omega, by go_num, ⟨_, _, _, rfl, by rw [HH.out.2]; exact ho'⟩, hb'⟩
          case measure => simp [intOf]; omega
        · have hy := selN_yes h
          have HH := Lib.hid (And.intro h hy)
          have hbe : ((soundT t (nthS ls k)).toList == (soundT t s).toList) = true := h
          clear h hy
          go_wp2_with (first | (at_builtin; refine wpList_appI rfl _ _ rfl w.heap.size _ n1 _ rfl (ho'.alloc _) _ 1 _ [(k : Int)] rfl (RdI.new1 _ _ _) (by omega) (hb'.le_alloc _) ?_; intro a2 c2 w4 hown hgrow; have hb2 := hb'.app ho' (Nat.le_refl _) hgrow; have HO := Lib.hid hown; clear hown))
          go_roundw
          case rel => exact ⟨k + 1, by omega, by go_num, ⟨_, _, _, rfl, by rw [HH.out.2]; exact HO.out⟩, hb2⟩
          case measure => simp [intOf]; omega
      · obtain rfl : k = m := by omega
        go_wp2
        go_ret2
        rw [RetLC, HZ.out.2.1, HZ.out.1]
        exact ⟨_, rfl, _, _, _, rfl, by rw [hln2]; exact ho, hb⟩
  · have hc := codeS_long h0 h1 h2 h3
    have hi : (20 : Int) < m := by omega
    have HZ := Lib.hid (And.intro h0 (And.intro h2 (And.intro h1 (And.intro hc (show msL t ls s = [] by rw [msL, hc]; rfl)))))
    clear h0 h2 h1 hc
    go_enter Tryz.func10, Tryz.ntmps10
    go_wp2_with (first | (go_at_call 22; refine (implIsSoundTable_any _ _ _ _ _ hr).mono ?_; rintro e w' ⟨rfl, rfl⟩; rw [HZ.out.1]) | fail)
    refine (areWords_any _ _ _ _ _ hr2).mono ?_
    rintro e w1 ⟨rfl, e1⟩
    rw [HZ.out.2.1]
    go_wp2_with fail
    refine (implIsWord_any _ _ (by omega)).mono ?_
    rintro e w2 ⟨rfl, e2⟩
    rw [HZ.out.2.2.1]
    go_wp2
    go_ret2
    rw [RetLC, HZ.out.2.2.2.1, HZ.out.2.2.2.2]
    exact ⟨_, rfl, NewI.nil _ _ (e1.trans e2)⟩

end Go.Proofs.YtfglmoedicijkaaGreatDoor

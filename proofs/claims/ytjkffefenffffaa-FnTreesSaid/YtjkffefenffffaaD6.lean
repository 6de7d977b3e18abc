/-
  The walks of AddClass, MoveClass and DistanceOf, the program's and the reference's.
-/
import Derived.Test.YtjkffefenffffaaD4
namespace Go.Proofs.Ytjkffefenffffaa
open Go.RowKit

theorem addC_cases (zs : List Int) (x : Int) : (codeL zs [x] ≠ 0 ∧ addC zs x = codeL zs [x]) ∨ (codeL zs [x] = 0 ∧ zs.length = 20 ∧ addC zs x = 3) ∨ (codeL zs [x] = 0 ∧ zs.length ≠ 20 ∧ addC zs x = 0) := by
  by_cases h : codeL zs [x] = 0
  · by_cases h2 : zs.length = 20
    · exact .inr (.inl ⟨h, h2, by simp [addC, h, h2]⟩)
    · exact .inr (.inr ⟨h, h2, by simp [addC, h, h2]⟩)
  · exact .inl ⟨h, by simp [addC, h]⟩

set_option maxHeartbeats 400000 in
theorem specAddClass_any (a : Option Addr) (n c : Nat) (x : Int) (zs : List Int) (w : World) (hr : RdI w a n zs) :
    Calls Try.prog 25 #[.slice a n c, .int .i64 x] w (RetLC w (addR zs x) (addC zs x)) := by
  have hm := hr.le
  have HS := Lib.hid (codeL_same zs x)
  have HL := Lib.hid hr.len
  rcases addC_cases zs x with ⟨h0, hc⟩ | ⟨h0, h1, hc⟩ | ⟨h0, h1, hc⟩
  · have hz : addR zs x = [] := by rw [addR, hc, if_neg h0]
    have b1 : (codeL zs [x, x] == 0) = false := by rw [HS.out]; simpa using h0
    have b2 : (codeL zs [x, x] != 0) = true := by rw [HS.out]; simpa using h0
    have HZ := Lib.hid (And.intro hz hc)
    clear hz hc h0
    go_enter Try.func25, Try.ntmps25
    go_wp2_with (first | (go_at_call 52; refine (l10Code_any _ _ _ _ _ _ _ hr).mono ?_; rintro e w' ⟨rfl, rfl⟩))
    go_ret2
    rw [RetLC, HZ.out.1, HZ.out.2, ← HS.out]
    exact ⟨_, rfl, NewI.nil _ _ (Ext.refl _)⟩
  · have hz : addR zs x = [] := by rw [addR, hc]; rfl
    have b1 : (codeL zs [x, x] == 0) = true := by rw [HS.out, h0]; rfl
    have b2 : (codeL zs [x, x] != 0) = false := by rw [HS.out, h0]; rfl
    obtain rfl : n = 20 := by rw [← HL.out]; exact h1
    have HZ := Lib.hid (And.intro hz hc)
    clear hz hc h0 h1
    go_enter Try.func25, Try.ntmps25
    go_wp2_with (first | (go_at_call 52; refine (l10Code_any _ _ _ _ _ _ _ hr).mono ?_; rintro e w' ⟨rfl, rfl⟩))
    go_ret2
    rw [RetLC, HZ.out.1, HZ.out.2]
    exact ⟨_, rfl, NewI.nil _ _ (Ext.refl _)⟩
  · have hz : addR zs x = zs ++ [x] := by rw [addR, hc]; rfl
    have b1 : (codeL zs [x, x] == 0) = true := by rw [HS.out, h0]; rfl
    have b2 : (codeL zs [x, x] != 0) = false := by rw [HS.out, h0]; rfl
    have b3 : ((n : Int) == 20) = false := by rw [← HL.out]; simp; omega
    have hn := (codeL_tree h0).le
    rw [HL.out] at hn
    have HZ := Lib.hid (And.intro hz hc)
    clear hz hc h0 h1
    go_enter Try.func25, Try.ntmps25
    go_wp2_with (first | (go_at_call 52; refine (l10Code_any _ _ _ _ _ _ _ hr).mono ?_; rintro e w' ⟨rfl, rfl⟩) | (go_at_call 56; refine (l01Own_any _ _ _ _ _ hr).mono ?_; rintro e w1 ⟨v, rfl, a1, n1, c1, rfl, ho, hb⟩; have hn1 := ho.rd.len; rw [HL.out] at hn1; subst hn1) | (at_builtin; refine wpList_appI rfl _ _ rfl w.heap.size _ n zs rfl (ho.alloc _) _ 1 _ [x] rfl (RdI.new1 _ _ _) (by omega) (hb.le_alloc _) ?_; intro a2 c2 w2 hown hgrow; have hb2 := hb.app ho (Nat.le_refl _) hgrow))
    go_ret2
    rw [RetLC, HZ.out.1, HZ.out.2]
    exact ⟨_, rfl, _, _, _, rfl, hown, hb2⟩

set_option maxHeartbeats 400000 in
theorem implAddClass_any (a : Option Addr) (n c : Nat) (x : Int) (zs : List Int) (w : World) (hr : RdI w a n zs) :
    Calls Try.prog 26 #[.slice a n c, .int .i64 x] w (RetLC w (addR zs x) (addC zs x)) := by
  have hm := hr.le
  have HL := Lib.hid hr.len
  have hal : ∀ o, Ext w (w.alloc o) := fun o => (Ext.refl _).alloc o
  have HAL := Lib.hid hal
  clear hal
  rcases addC_cases zs x with ⟨h0, hc⟩ | ⟨h0, h1, hc⟩ | ⟨h0, h1, hc⟩
  · have hz : addR zs x = [] := by rw [addR, hc, if_neg h0]
    have b2 : (codeL zs [x] != 0) = true := by simpa using h0
    have HZ := Lib.hid (And.intro hz hc)
    clear hz hc h0
    go_enter Try.func26, Try.ntmps26
    go_wp2_with (first | (go_at_call 54; refine (classCode_any _ _ _ _ _ _ _ [x] _ (hr.ext (HAL.out _)) (RdI.new1 _ _ _)).mono ?_; rintro e w' ⟨rfl, rfl⟩))
    go_ret2
    rw [RetLC, HZ.out.1, HZ.out.2]
    exact ⟨_, rfl, NewI.nil _ _ (HAL.out _)⟩
  · have hz : addR zs x = [] := by rw [addR, hc]; rfl
    have b2 : (codeL zs [x] != 0) = false := by rw [h0]; rfl
    obtain rfl : n = 20 := by rw [← HL.out]; exact h1
    have HZ := Lib.hid (And.intro hz hc)
    clear hz hc h0 h1
    go_enter Try.func26, Try.ntmps26
    go_wp2_with (first | (go_at_call 54; refine (classCode_any _ _ _ _ _ _ _ [x] _ (hr.ext (HAL.out _)) (RdI.new1 _ _ _)).mono ?_; rintro e w' ⟨rfl, rfl⟩))
    go_ret2
    rw [RetLC, HZ.out.1, HZ.out.2]
    exact ⟨_, rfl, NewI.nil _ _ (HAL.out _)⟩
  · have hz : addR zs x = zs ++ [x] := by rw [addR, hc]; rfl
    have b2 : (codeL zs [x] != 0) = false := by rw [h0]; rfl
    have b3 : ((n : Int) == 20) = false := by rw [← HL.out]; simp; omega
    have hn := (codeL_tree h0).le
    rw [HL.out] at hn
    have HZ := Lib.hid (And.intro hz hc)
    clear hz hc h0 h1
    go_enter Try.func26, Try.ntmps26
    go_wp2_with (first | (go_at_call 54; refine (classCode_any _ _ _ _ _ _ _ [x] _ (hr.ext (HAL.out _)) (RdI.new1 _ _ _)).mono ?_; rintro e w' ⟨rfl, rfl⟩) | (go_at_call 57; refine (slClone_int64_any _ _ _ _ _ (hr.ext (HAL.out _))).mono ?_; rintro e w1 ⟨v, rfl, hnew⟩; obtain ⟨a1, n1, c1, rfl, ho, hb⟩ := NewI.pre (HAL.out _) hnew; clear hnew; have hn1 := ho.rd.len; rw [HL.out] at hn1; subst hn1) | (at_builtin; refine wpList_appI rfl _ _ rfl w.heap.size _ n zs rfl (ho.alloc _) _ 1 _ [x] rfl (RdI.new1 _ _ _) (by omega) (hb.le_alloc _) ?_; intro a2 c2 w2 hown hgrow; have hb2 := hb.app ho (Nat.le_refl _) hgrow))
    go_ret2
    rw [RetLC, HZ.out.1, HZ.out.2]
    exact ⟨_, rfl, _, _, _, rfl, hown, hb2⟩

theorem moveC_cases (zs : List Int) (x y : Int) : (codeL zs [x, y] ≠ 0 ∧ moveC zs x y = codeL zs [x, y]) ∨ (codeL zs [x, y] = 0 ∧ x ≤ y ∧ moveC zs x y = 5) ∨ (codeL zs [x, y] = 0 ∧ y < x ∧ moveC zs x y = 0) := by
  by_cases h : codeL zs [x, y] = 0
  · by_cases h2 : x ≤ y
    · exact .inr (.inl ⟨h, h2, by simp [moveC, h, h2]⟩)
    · exact .inr (.inr ⟨h, by omega, by simp [moveC, h, h2]⟩)
  · exact .inl ⟨h, by simp [moveC, h]⟩

theorem set_ints (zs : List Int) (k : Nat) (y : Int) : (zs.map (Value.int .i64)).set k (.int .i64 y) = (zs.set k y).map (Value.int .i64) := by rw [List.map_set]

/-- One element of what the call owns is written. -/
theorem OwnI.store {w : World} {B n c k : Nat} {a : Option Addr} {zs : List Int} (h : OwnI w B a n c zs) (hk : k < n) (y : Int) :
    ∃ g, a = some ⟨g, 0, none⟩ ∧ B ≤ g ∧ (∃ u, w.cell? ⟨g, k, none⟩ = some u) ∧ w.frozen? ⟨g, k, none⟩ = false ∧ OwnI (w.setCell ⟨g, k, none⟩ (.int .i64 y)) B a n c (zs.set k y) := by
  rcases own_addr h.1 with rfl | ⟨g, rfl⟩
  · have := h.rd.isNone.1
    omega
  · refine ⟨g, rfl, (h.1.lt g rfl).1, own_old h.1 k hk, h.1.frozenAt k, ?_, h.2⟩
    have := (h.1.stored k (.int .i64 y)).1
    rwa [set_ints] at this

set_option maxHeartbeats 400000 in
theorem specMoveClass_any (a : Option Addr) (n c : Nat) (x y : Int) (zs : List Int) (w : World) (hr : RdI w a n zs) :
    Calls Try.prog 31 #[.slice a n c, .int .i64 x, .int .i64 y] w (RetLC w (moveR zs x y) (moveC zs x y)) := by
  have hm := hr.le
  have HL := Lib.hid hr.len
  rcases moveC_cases zs x y with ⟨h0, hc⟩ | ⟨h0, h1, hc⟩ | ⟨h0, h1, hc⟩
  · have hz : moveR zs x y = [] := by rw [moveR, hc, if_neg h0]
    have b1 : (codeL zs [x, y] == 0) = false := by simpa using h0
    have b2 : (codeL zs [x, y] != 0) = true := by simpa using h0
    have HZ := Lib.hid (And.intro hz hc)
    clear hz hc h0
    go_enter Try.func31, Try.ntmps31
    go_wp2_with (first | (go_at_call 52; refine (l10Code_any _ _ _ _ _ _ _ hr).mono ?_; rintro e w' ⟨rfl, rfl⟩))
    go_ret2
    rw [RetLC, HZ.out.1, HZ.out.2]
    exact ⟨_, rfl, NewI.nil _ _ (Ext.refl _)⟩
  · have hz : moveR zs x y = [] := by rw [moveR, hc]; rfl
    have b1 : (codeL zs [x, y] == 0) = true := by rw [h0]; rfl
    have b2 : (codeL zs [x, y] != 0) = false := by rw [h0]; rfl
    have HZ := Lib.hid (And.intro hz hc)
    clear hz hc h0
    go_enter Try.func31, Try.ntmps31
    go_wp2_with (first | (go_at_call 52; refine (l10Code_any _ _ _ _ _ _ _ hr).mono ?_; rintro e w' ⟨rfl, rfl⟩))
    go_ret2
    rw [RetLC, HZ.out.1, HZ.out.2]
    exact ⟨_, rfl, NewI.nil _ _ (Ext.refl _)⟩
  · have hz : moveR zs x y = zs.set x.toNat y := by rw [moveR, hc]; rfl
    obtain ⟨ht, ⟨hx0, hx1⟩, ⟨hy0, hy1⟩⟩ := codeL_two h0
    obtain ⟨i, rfl⟩ := Int.eq_ofNat_of_zero_le hx0
    rw [Int.toNat_natCast] at hz
    have hi : i < n := by rw [← HL.out]; omega
    have b1 : (codeL zs [(i : Int), y] == 0) = true := by rw [h0]; rfl
    have b2 : (codeL zs [(i : Int), y] != 0) = false := by rw [h0]; rfl
    have b3 : ¬ (i : Int) ≤ y := by omega
    have HZ := Lib.hid (And.intro hz hc)
    clear hz hc h0 hx0 hx1 hy0 hy1 ht
    go_enter Try.func31, Try.ntmps31
    go_wp2_with (first | (go_at_call 52; refine (l10Code_any _ _ _ _ _ _ _ hr).mono ?_; rintro e w' ⟨rfl, rfl⟩) | (go_at_call 56; refine (l01Own_any _ _ _ _ _ hr).mono ?_; rintro e w1 ⟨v, rfl, a1, n1, c1, rfl, ho, hb⟩; have hn1 := ho.rd.len; rw [HL.out] at hn1; subst hn1; obtain ⟨g, rfl, hg, ⟨u, hu⟩, hf, hs⟩ := ho.store hi y; have HS := Lib.hid hs; clear hs))
    go_ret2
    rw [RetLC, HZ.out.1, HZ.out.2]
    exact ⟨_, rfl, _, _, _, rfl, by simpa using HS.out, by simpa using hb.setCell (p := ⟨g, i, none⟩) hg (.int .i64 y)⟩

set_option maxHeartbeats 400000 in
theorem implMoveClass_any (a : Option Addr) (n c : Nat) (x y : Int) (zs : List Int) (w : World) (hr : RdI w a n zs) :
    Calls Try.prog 32 #[.slice a n c, .int .i64 x, .int .i64 y] w (RetLC w (moveR zs x y) (moveC zs x y)) := by
  have hm := hr.le
  have HL := Lib.hid hr.len
  have hal : ∀ o, Ext w (w.alloc o) := fun o => (Ext.refl _).alloc o
  have HAL := Lib.hid hal
  clear hal
  rcases moveC_cases zs x y with ⟨h0, hc⟩ | ⟨h0, h1, hc⟩ | ⟨h0, h1, hc⟩
  · have hz : moveR zs x y = [] := by rw [moveR, hc, if_neg h0]
    have b2 : (codeL zs [x, y] != 0) = true := by simpa using h0
    have HZ := Lib.hid (And.intro hz hc)
    clear hz hc h0
    go_enter Try.func32, Try.ntmps32
    go_wp2_with (first | (go_at_call 54; refine (classCode_any _ _ _ _ _ _ _ [x, y] _ (hr.ext (HAL.out _)) (RdI.new2 _ _ _ _)).mono ?_; rintro e w' ⟨rfl, rfl⟩))
    go_ret2
    rw [RetLC, HZ.out.1, HZ.out.2]
    exact ⟨_, rfl, NewI.nil _ _ (HAL.out _)⟩
  · have hz : moveR zs x y = [] := by rw [moveR, hc]; rfl
    have b2 : (codeL zs [x, y] != 0) = false := by rw [h0]; rfl
    have HZ := Lib.hid (And.intro hz hc)
    clear hz hc h0
    by_cases hx : x = 0
    · have HX := Lib.hid hx
      have b4 : (x == 0) = true := by simpa using hx
      clear hx
      go_enter Try.func32, Try.ntmps32
      go_wp2_with (first | (go_at_call 54; refine (classCode_any _ _ _ _ _ _ _ [x, y] _ (hr.ext (HAL.out _)) (RdI.new2 _ _ _ _)).mono ?_; rintro e w' ⟨rfl, rfl⟩))
      go_ret2
      rw [RetLC, HZ.out.1, HZ.out.2]
      exact ⟨_, rfl, NewI.nil _ _ (HAL.out _)⟩
    · have b4 : (x == 0) = false := by simpa using hx
      clear hx
      go_enter Try.func32, Try.ntmps32
      go_wp2_with (first | (go_at_call 54; refine (classCode_any _ _ _ _ _ _ _ [x, y] _ (hr.ext (HAL.out _)) (RdI.new2 _ _ _ _)).mono ?_; rintro e w' ⟨rfl, rfl⟩))
      go_ret2
      rw [RetLC, HZ.out.1, HZ.out.2]
      exact ⟨_, rfl, NewI.nil _ _ (HAL.out _)⟩
  · have hz : moveR zs x y = zs.set x.toNat y := by rw [moveR, hc]; rfl
    obtain ⟨ht, ⟨hx0, hx1⟩, ⟨hy0, hy1⟩⟩ := codeL_two h0
    obtain ⟨i, rfl⟩ := Int.eq_ofNat_of_zero_le hx0
    rw [Int.toNat_natCast] at hz
    have hi : i < n := by rw [← HL.out]; omega
    have b2 : (codeL zs [(i : Int), y] != 0) = false := by rw [h0]; rfl
    have b3 : ¬ (i : Int) ≤ y := by omega
    have b4 : ((i : Int) == 0) = false := by simp; omega
    have HZ := Lib.hid (And.intro hz hc)
    clear hz hc h0 hx0 hx1 hy0 hy1 ht
    go_enter Try.func32, Try.ntmps32
    go_wp2_with (first | (go_at_call 54; refine (classCode_any _ _ _ _ _ _ _ [(i : Int), y] _ (hr.ext (HAL.out _)) (RdI.new2 _ _ _ _)).mono ?_; rintro e w' ⟨rfl, rfl⟩) | (go_at_call 57; refine (slClone_int64_any _ _ _ _ _ (hr.ext (HAL.out _))).mono ?_; rintro e w1 ⟨v, rfl, hnew⟩; obtain ⟨a1, n1, c1, rfl, ho, hb⟩ := NewI.pre (HAL.out _) hnew; clear hnew; have hn1 := ho.rd.len; rw [HL.out] at hn1; subst hn1; obtain ⟨g, rfl, hg, ⟨u, hu⟩, hf, hs⟩ := ho.store hi y; have HS := Lib.hid hs; clear hs))
    go_ret2
    rw [RetLC, HZ.out.1, HZ.out.2]
    exact ⟨_, rfl, _, _, _, rfl, by simpa using HS.out, by simpa using hb.setCell (p := ⟨g, i, none⟩) hg (.int .i64 y)⟩

end Go.Proofs.Ytjkffefenffffaa

/-
  The walks of LeavesOf and SubclassesOf, the program's and the reference's.
-/
import Derived.Test.YtjkffefenffffaaD3
namespace Go.Proofs.Ytjkffefenffffaa
open Go.RowKit

/-- A slice of ints that grows in a loop: what the call owns so far. -/
def OwnV (w : World) (B : Nat) (v : Value) (zs : List Int) : Prop := ∃ a n c, v = .slice a n c ∧ OwnI w B a n c zs
theorem OwnV.isNil (w : World) (B : Nat) : OwnV w B (.slice none 0 0) [] := ⟨_, _, _, rfl, OwnI.isNil w B, by decide⟩
theorem OwnV.lit0 (w : World) {B : Nat} (hB : B ≤ w.heap.size) : OwnV (w.alloc (.cells #[] 2)) B (.slice (some ⟨w.heap.size, 0, none⟩) 0 0) [] := ⟨_, _, _, rfl, OwnI.lit0 w hB, by decide⟩

set_option maxHeartbeats 400000 in
theorem specLeavesOf_any (a : Option Addr) (n c : Nat) (zs : List Int) (w : World) (hr : RdI w a n zs) :
    Calls Try.prog 29 #[.slice a n c] w (RetLC w (leavesR zs) (codeL zs [])) := by
  have hm := hr.le
  have hl := hr.len
  have HL := Lib.hid hl
  clear hl
  cases ht : treeB zs
  · have hz : leavesR zs = [] ∧ codeL zs [] = 1 := by rw [leavesR, codeL_bad ht]; simp
    have HZ := Lib.hid hz
    have HT := Lib.hid ht
    clear hz ht
    go_enter Try.func29, Try.ntmps29
    go_wp2_with (first | (go_at_call 15; refine (specIsClassTree_any _ _ _ _ _ hr).mono ?_; rintro e w' ⟨rfl, rfl⟩; rw [HT.out]))
    go_ret2
    rw [RetLC, HZ.out.1, HZ.out.2]
    exact ⟨_, rfl, NewI.nil _ _ (Ext.refl _)⟩
  · have hcd : codeL zs [] = 0 := codeL_ok rfl ht rfl
    have hz : leavesR zs = selN n (fun i => !hasI zs i) ∧ codeL zs [] = 0 := by rw [leavesR, hcd, HL.out]; simp
    have hn20 := (treeB_tree ht).le
    rw [HL.out] at hn20
    have HZ := Lib.hid hz
    have HT := Lib.hid ht
    clear hz ht hcd
    go_enter Try.func29, Try.ntmps29
    go_wp2_with (first | (go_at_call 15; refine (specIsClassTree_any _ _ _ _ _ hr).mono ?_; rintro e w' ⟨rfl, rfl⟩; rw [HT.out]))
    go_loopw [4, 5] (fun v i wr => ∃ k : Nat, k ≤ n ∧ i = .int .i64 k ∧ OwnV wr w.heap.size v (selN k (fun i => !hasI zs i)) ∧ Ext w wr) (fun _ i _ => n - (intOf i).toNat)
    case atStart => exact ⟨0, Nat.zero_le _, rfl, OwnV.lit0 w (Nat.le_refl _), (Ext.refl _).alloc _⟩
    case round =>
      obtain ⟨k, hk, rfl, ⟨a1, n1, c1, rfl, ho⟩, hb⟩ := hrel
      by_cases hlt : k < n
      · have hn1 : n1 ≤ 20 := by
          have h1 := ho.rd.len
          have h2 := selN_len k (fun i => !hasI zs i)
          omega
        cases h : hasI zs k
        · have hy := selN_yes (k := k) (p := fun i => !hasI zs i) (by simp [h])
          have HH := Lib.hid (And.intro h hy)
          clear h hy
          go_wp2_with (first | (go_at_call 58; refine (l01Has_any _ _ _ _ _ _ (hr.ext hb)).mono ?_; rintro e w' ⟨rfl, rfl⟩; rw [HH.out.1]) | (at_builtin; refine wpList_appI rfl _ _ rfl w.heap.size _ n1 _ rfl (ho.alloc _) _ 1 _ [(k : Int)] rfl (RdI.new1 _ _ _) (by omega) (hb.le_alloc _) ?_; intro a2 c2 w2 hown hgrow; have hb2 := hb.app ho (Nat.le_refl _) hgrow; have HO := Lib.hid hown; clear hown))
          go_roundw
          case rel => exact ⟨k + 1, by omega, by go_num, ⟨_, _, _, rfl, by rw [HH.out.2]; exact HO.out⟩, hb2⟩
          case measure => simp [intOf]; omega
        · have hy := selN_no (k := k) (p := fun i => !hasI zs i) (by simp [h])
          have HH := Lib.hid (And.intro h hy)
          clear h hy
          go_wp2_with (first | (go_at_call 58; refine (l01Has_any _ _ _ _ _ _ (hr.ext hb)).mono ?_; rintro e w' ⟨rfl, rfl⟩; rw [HH.out.1]))
          go_roundw
          case rel => exact ⟨k + 1, by omega, by go_num, ⟨_, _, _, rfl, by rw [HH.out.2]; exact ho⟩, hb⟩
          case measure => simp [intOf]; omega
      · obtain rfl : k = n := by omega
        go_wp2
        go_ret2
        rw [RetLC, HZ.out.1, HZ.out.2]
        exact ⟨_, rfl, _, _, _, rfl, ho, hb⟩

set_option maxHeartbeats 400000 in
theorem implLeavesOf_any (a : Option Addr) (n c : Nat) (zs : List Int) (w : World) (hr : RdI w a n zs) :
    Calls Try.prog 30 #[.slice a n c] w (RetLC w (leavesR zs) (codeL zs [])) := by
  have hm := hr.le
  have hl := hr.len
  have HL := Lib.hid hl
  clear hl
  rcases code_cases zs [] with h0 | h0
  · have ht := codeL_tree h0
    have hz : leavesR zs = selN n (fun i => !hasI zs i) ∧ codeL zs [] = 0 := by rw [leavesR, h0, HL.out]; simp
    have hn20 := ht.le
    rw [HL.out] at hn20
    have hc' : (codeL zs [] != 0) = false := by rw [h0]; rfl
    have HZ := Lib.hid hz
    clear hz ht h0
    go_enter Try.func30, Try.ntmps30
    go_wp2_with (first | (go_at_call 54; refine (classCode_any _ _ _ _ _ _ _ [] _ hr (RdI.nil _ _)).mono ?_; rintro e w' ⟨rfl, rfl⟩) | (go_at_call 50; refine (length_int64_any _ _ _ _ hm).mono ?_; rintro e w' ⟨rfl, rfl⟩))
    go_loopw [5, 14] (fun v i wr => ∃ k : Nat, k ≤ n ∧ i = .int .i64 k ∧ OwnV wr w.heap.size v (selN k (fun i => !hasI zs i)) ∧ Ext w wr) (fun _ i _ => n - (intOf i).toNat)
    case atStart => exact ⟨0, Nat.zero_le _, rfl, OwnV.isNil _ _, Ext.refl _⟩
    case round =>
      obtain ⟨k, hk, rfl, ⟨a1, n1, c1, rfl, ho⟩, hb⟩ := hrel
      by_cases hlt : k < n
      · have hn1 : n1 ≤ 20 := by
          have h1 := ho.rd.len
          have h2 := selN_len k (fun i => !hasI zs i)
          omega
        cases h : hasI zs k
        · have hy := selN_yes (k := k) (p := fun i => !hasI zs i) (by simp [h])
          have HH := Lib.hid (And.intro h hy)
          clear h hy
          go_wp2_with (first | (go_at_call 60; refine (slContains_int64_any _ _ _ _ _ _ (hr.ext hb)).mono ?_; rintro e w' ⟨rfl, rfl⟩; rw [HH.out.1]) | (at_builtin; refine wpList_appI rfl _ _ rfl w.heap.size _ n1 _ rfl (ho.alloc _) _ 1 _ [(k : Int)] rfl (RdI.new1 _ _ _) (by omega) (hb.le_alloc _) ?_; intro a2 c2 w2 hown hgrow; have hb2 := hb.app ho (Nat.le_refl _) hgrow; have HO := Lib.hid hown; clear hown))
          go_roundw
          case rel => exact ⟨k + 1, by omega, by go_num, ⟨_, _, _, rfl, by rw [HH.out.2]; exact HO.out⟩, hb2⟩
          case measure => simp [intOf]; omega
        · have hy := selN_no (k := k) (p := fun i => !hasI zs i) (by simp [h])
          have HH := Lib.hid (And.intro h hy)
          clear h hy
          go_wp2_with (first | (go_at_call 60; refine (slContains_int64_any _ _ _ _ _ _ (hr.ext hb)).mono ?_; rintro e w' ⟨rfl, rfl⟩; rw [HH.out.1]))
          go_roundw
          case rel => exact ⟨k + 1, by omega, by go_num, ⟨_, _, _, rfl, by rw [HH.out.2]; exact ho⟩, hb⟩
          case measure => simp [intOf]; omega
      · obtain rfl : k = n := by omega
        go_wp2
        go_ret2
        rw [RetLC, HZ.out.1, HZ.out.2]
        exact ⟨_, rfl, _, _, _, rfl, ho, hb⟩
  · have hc' : (codeL zs [] != 0) = true := by simpa using h0
    have hz : leavesR zs = [] := by rw [leavesR, if_neg h0]
    have HZ := Lib.hid hz
    clear hz h0
    go_enter Try.func30, Try.ntmps30
    go_wp2_with (first | (go_at_call 54; refine (classCode_any _ _ _ _ _ _ _ [] _ hr (RdI.nil _ _)).mono ?_; rintro e w' ⟨rfl, rfl⟩))
    go_ret2
    rw [RetLC, HZ.out]
    exact ⟨_, rfl, NewI.nil _ _ (Ext.refl _)⟩

set_option maxHeartbeats 400000 in
theorem specSubclassesOf_any (a : Option Addr) (n c : Nat) (x : Int) (zs : List Int) (w : World) (hr : RdI w a n zs) :
    Calls Try.prog 37 #[.slice a n c, .int .i64 x] w (RetLC w (subR zs x) (codeL zs [x])) := by
  have hm := hr.le
  have hl := hr.len
  have HL := Lib.hid hl
  clear hl
  have HS := Lib.hid (codeL_same zs x)
  rcases code_cases zs [x] with h0 | h0
  · have ht := codeL_tree h0
    have hz : subR zs x = selN n (fun i => hasI (kinds zs i) x) ∧ codeL zs [x] = 0 := by rw [subR, h0, HL.out]; simp
    have hn20 := ht.le
    rw [HL.out] at hn20
    have hc' : (codeL zs [x, x] != 0) = false := by rw [HS.out, h0]; rfl
    have HZ := Lib.hid hz
    clear hz h0
    go_enter Try.func37, Try.ntmps37
    go_wp2_with (first | (go_at_call 52; refine (l10Code_any _ _ _ _ _ _ _ hr).mono ?_; rintro e w' ⟨rfl, rfl⟩))
    go_loopw [7, 8] (fun v i wr => ∃ k : Nat, k ≤ n ∧ i = .int .i64 k ∧ OwnV wr w.heap.size v (selN k (fun i => hasI (kinds zs i) x)) ∧ Ext w wr) (fun _ i _ => n - (intOf i).toNat)
    case atStart => exact ⟨0, Nat.zero_le _, rfl, OwnV.lit0 w (Nat.le_refl _), (Ext.refl _).alloc _⟩
    case round =>
      obtain ⟨k, hk, rfl, ⟨a1, n1, c1, rfl, ho⟩, hb⟩ := hrel
      by_cases hlt : k < n
      · have hn1 : n1 ≤ 20 := by
          have h1 := ho.rd.len
          have h2 := selN_len k (fun i => hasI (kinds zs i) x)
          omega
        cases h : hasI (kinds zs k) x
        · have hy := selN_no (k := k) (p := fun i => hasI (kinds zs i) x) (by simp [h])
          have HH := Lib.hid (And.intro h hy)
          clear h hy
          go_wp2_with (first | (go_at_call 53; refine (l10Kinds_any _ _ _ _ _ _ (hr.ext hb) ht hlt).mono ?_; rintro e w1 ⟨v, rfl, a3, n3, c3, rfl, ho3, hb3⟩) | (go_at_call 58; refine (l01Has_any _ _ _ _ _ _ ho3.rd).mono ?_; rintro e w' ⟨rfl, rfl⟩; rw [HH.out.1]))
          go_roundw
          case rel => exact ⟨k + 1, by omega, by go_num, ⟨_, _, _, rfl, by rw [HH.out.2]; exact ho.ext hb3⟩, hb.trans hb3⟩
          case measure => simp [intOf]; omega
        · have hy := selN_yes (k := k) (p := fun i => hasI (kinds zs i) x) (by simp [h])
          have HH := Lib.hid (And.intro h hy)
          clear h hy
          go_wp2_with fail
          refine (l10Kinds_any _ _ _ _ _ _ (hr.ext hb) ht hlt).mono ?_
          rintro e w1 ⟨v, rfl, a3, n3, c3, rfl, ho3, hb3⟩
          have ho' := ho.ext hb3
          have hb' := hb.trans hb3
          go_wp2_with (first | (go_at_call 58; refine (l01Has_any _ _ _ _ _ _ ho3.rd).mono ?_; rintro e w' ⟨rfl, rfl⟩; rw [HH.out.1]) | (at_builtin; refine wpList_appI rfl _ _ rfl w.heap.size _ n1 _ rfl (ho'.alloc _) _ 1 _ [(k : Int)] rfl (RdI.new1 _ _ _) (by omega) (hb'.le_alloc _) ?_; intro a2 c2 w2 hown hgrow; have hb2 := hb'.app ho' (Nat.le_refl _) hgrow; have HO := Lib.hid hown; clear hown))
          go_roundw
          case rel => exact ⟨k + 1, by omega, by go_num, ⟨_, _, _, rfl, by rw [HH.out.2]; exact HO.out⟩, hb2⟩
          case measure => simp [intOf]; omega
      · obtain rfl : k = n := by omega
        go_wp2
        go_ret2
        rw [RetLC, HZ.out.1, HZ.out.2]
        exact ⟨_, rfl, _, _, _, rfl, ho, hb⟩
  · have hc' : (codeL zs [x, x] != 0) = true := by rw [HS.out]; simpa using h0
    have hz : subR zs x = [] := by rw [subR, if_neg h0]
    have HZ := Lib.hid hz
    clear hz h0
    go_enter Try.func37, Try.ntmps37
    go_wp2_with (first | (go_at_call 52; refine (l10Code_any _ _ _ _ _ _ _ hr).mono ?_; rintro e w' ⟨rfl, rfl⟩))
    go_ret2
    rw [RetLC, HZ.out, ← HS.out]
    exact ⟨_, rfl, NewI.nil _ _ (Ext.refl _)⟩

set_option maxHeartbeats 400000 in
theorem implSubclassesOf_any (a : Option Addr) (n c : Nat) (x : Int) (zs : List Int) (w : World) (hr : RdI w a n zs) :
    Calls Try.prog 38 #[.slice a n c, .int .i64 x] w (RetLC w (subR zs x) (codeL zs [x])) := by
  have hm := hr.le
  have hl := hr.len
  have HL := Lib.hid hl
  clear hl
  have hal : ∀ o, Ext w (w.alloc o) := fun o => (Ext.refl _).alloc o
  have HAL := Lib.hid hal
  clear hal
  rcases code_cases zs [x] with h0 | h0
  · have ht := codeL_tree h0
    have hz : subR zs x = selN n (fun i => hasI (kinds zs i) x) ∧ codeL zs [x] = 0 := by rw [subR, h0, HL.out]; simp
    have hn20 := ht.le
    rw [HL.out] at hn20
    have hc' : (codeL zs [x] != 0) = false := by rw [h0]; rfl
    have HZ := Lib.hid hz
    clear hz h0
    go_enter Try.func38, Try.ntmps38
    go_wp2_with (first | (go_at_call 54; refine (classCode_any _ _ _ _ _ _ _ [x] _ (hr.ext (HAL.out _)) (RdI.new1 _ _ _)).mono ?_; rintro e w' ⟨rfl, rfl⟩) | (go_at_call 50; refine (length_int64_any _ _ _ _ hm).mono ?_; rintro e w' ⟨rfl, rfl⟩))
    go_loopw [7, 18] (fun v i wr => ∃ k : Nat, k ≤ n ∧ i = .int .i64 k ∧ OwnV wr w.heap.size v (selN k (fun i => hasI (kinds zs i) x)) ∧ Ext w wr) (fun _ i _ => n - (intOf i).toNat)
    case atStart => exact ⟨0, Nat.zero_le _, rfl, OwnV.isNil _ _, HAL.out _⟩
    case round =>
      obtain ⟨k, hk, rfl, ⟨a1, n1, c1, rfl, ho⟩, hb⟩ := hrel
      by_cases hlt : k < n
      · have hn1 : n1 ≤ 20 := by
          have h1 := ho.rd.len
          have h2 := selN_len k (fun i => hasI (kinds zs i) x)
          omega
        cases h : hasI (kinds zs k) x
        · have hy := selN_no (k := k) (p := fun i => hasI (kinds zs i) x) (by simp [h])
          have HH := Lib.hid (And.intro h hy)
          clear h hy
          go_wp2_with (first | (go_at_call 59; refine (isKindOf_any _ _ _ _ _ _ _ (hr.ext hb) ht hlt).mono ?_; rintro e w1 ⟨rfl, hb3⟩; rw [HH.out.1]))
          go_roundw
          case rel => exact ⟨k + 1, by omega, by go_num, ⟨_, _, _, rfl, by rw [HH.out.2]; exact ho.ext hb3⟩, hb.trans hb3⟩
          case measure => simp [intOf]; omega
        · have hy := selN_yes (k := k) (p := fun i => hasI (kinds zs i) x) (by simp [h])
          have HH := Lib.hid (And.intro h hy)
          clear h hy
          go_wp2_with fail
          refine (isKindOf_any _ _ _ _ _ _ _ (hr.ext hb) ht hlt).mono ?_
          rintro e w1 ⟨rfl, hb3⟩
          rw [HH.out.1]
          have ho' := ho.ext hb3
          have hb' := hb.trans hb3
          go_wp2_with (first | (at_builtin; refine wpList_appI rfl _ _ rfl w.heap.size _ n1 _ rfl (ho'.alloc _) _ 1 _ [(k : Int)] rfl (RdI.new1 _ _ _) (by omega) (hb'.le_alloc _) ?_; intro a2 c2 w2 hown hgrow; have hb2 := hb'.app ho' (Nat.le_refl _) hgrow; have HO := Lib.hid hown; clear hown))
          go_roundw
          case rel => exact ⟨k + 1, by omega, by go_num, ⟨_, _, _, rfl, by rw [HH.out.2]; exact HO.out⟩, hb2⟩
          case measure => simp [intOf]; omega
      · obtain rfl : k = n := by omega
        go_wp2
        go_ret2
        rw [RetLC, HZ.out.1, HZ.out.2]
        exact ⟨_, rfl, _, _, _, rfl, ho, hb⟩
  · have hc' : (codeL zs [x] != 0) = true := by simpa using h0
    have hz : subR zs x = [] := by rw [subR, if_neg h0]
    have HZ := Lib.hid hz
    clear hz h0
    go_enter Try.func38, Try.ntmps38
    go_wp2_with (first | (go_at_call 54; refine (classCode_any _ _ _ _ _ _ _ [x] _ (hr.ext (HAL.out _)) (RdI.new1 _ _ _)).mono ?_; rintro e w' ⟨rfl, rfl⟩))
    go_ret2
    rw [RetLC, HZ.out]
    exact ⟨_, rfl, NewI.nil _ _ (HAL.out _)⟩

end Go.Proofs.Ytjkffefenffffaa

/-
  The laws' dice; likeSpans.
-/
import Derived.Test.YteencdgaldhanaaGreatDoorKSpan
import Derived.Test.YteencdgaldhanaaGreatDoorWT
import Derived.Test.YteencdgaldhanaaGreatDoorDL4
namespace Go.Proofs.YteencdgaldhanaaGreatDoor
open Go.RowKit

def DiceB (w : World) (g : Nat) (a : Option Addr) (n c i : Nat) : Prop := i ≤ n ∧ ∃ h : Int, w.heap[g]? = some (.cells #[.slice a n c, .int .i64 i, .int .u64 h] 105 (0, 0))
theorem DiceB.cell {w : World} {g n c i : Nat} {a : Option Addr} (h : DiceB w g a n c i) : ∃ h : Int, w.cell? ⟨g, 0, none⟩ = some (.slice a n c) ∧ w.cell? ⟨g, 1, none⟩ = some (.int .i64 i) ∧ w.cell? ⟨g, 2, none⟩ = some (.int .u64 h) ∧ (∀ j, w.frozen? ⟨g, j, none⟩ = false) ∧ g < w.heap.size := by
  obtain ⟨_, h, hb⟩ := h
  refine ⟨h, ?_, ?_, ?_, fun j => frozen_of_row w g j _ _ hb, (Array.getElem?_eq_some_iff.1 hb).1⟩
  · simp [World.cell?, hb]
  · simp [World.cell?, hb]
  · simp [World.cell?, hb]
theorem DiceB.setH {w : World} {g n c i : Nat} {a : Option Addr} (h : DiceB w g a n c i) (x : Int) : DiceB (w.setCell ⟨g, 2, none⟩ (.int .u64 x)) g a n c i := by
  obtain ⟨h1, h, hb⟩ := h
  exact ⟨h1, x, by rw [heap_setCell_same w g 2 _ _ _ hb]; rfl⟩
theorem DiceB.setI {w : World} {g n c i : Nat} {a : Option Addr} (h : DiceB w g a n c i) {j : Nat} (hj : j ≤ n) : DiceB (w.setCell ⟨g, 1, none⟩ (.int .i64 j)) g a n c j := by
  obtain ⟨h1, h, hb⟩ := h
  exact ⟨hj, h, by rw [heap_setCell_same w g 1 _ _ _ hb]; rfl⟩
theorem DiceB.of_heap {w w' : World} {g n c i : Nat} {a : Option Addr} (h : DiceB w g a n c i) (e : w'.heap = w.heap) : DiceB w' g a n c i := by
  obtain ⟨h1, h, hb⟩ := h
  exact ⟨h1, h, by rw [e]; exact hb⟩
theorem DiceB.ext {w w' : World} {g n c i : Nat} {a : Option Addr} (h : DiceB w g a n c i) (x : Ext w w') : DiceB w' g a n c i := by
  obtain ⟨h1, h, hb⟩ := h
  exact ⟨h1, h, (x.block g (Array.getElem?_eq_some_iff.1 hb).1).trans hb⟩
theorem RdBy.at {w : World} {a : Option Addr} {n : Nat} {bs : List Int} (h : RdBy w a n bs) (hn : 0 < n) : ∃ b o, a = some ⟨b, o, none⟩ ∧ b < w.heap.size ∧ ∀ k, k < n → w.cell? ⟨b, o + k, none⟩ = some (.int .u8 (nth bs k)) := by
  rcases h.rd with e | ⟨b, o, ha, hb, hc⟩
  · have := h.len
    have e2 : bs = [] := by simpa using e
    rw [e2] at this; simp at this; omega
  · exact ⟨b, o, ha, hb, fun k hk => hc k _ (by have := h.len; simp [nth, show k < bs.length by omega])⟩

set_option maxRecDepth 100000 in
set_option maxHeartbeats 2000000 in
theorem roll_any (a : Option Addr) (n c : Nat) (bs : List Int) (sd : Int) (w : World) (hr : RdBy w a n bs) :
    Calls Tryz.prog 38 #[.slice a n c, .int .u64 sd] w fun e w' => ∃ g, e = .returned (.pointer (some ⟨g, 0, none⟩)) ∧ w.heap.size ≤ g ∧ DiceB w' g a n c 0 ∧ Ext w w' := by
  have hm := hr.le
  go_enter Tryz.func38, Tryz.ntmps38
  go_wp2
  go_loopw [6] (fun i wr => ∃ k : Nat, k ≤ n ∧ i = .int .i64 k ∧ DiceB wr w.heap.size a n c 0 ∧ Ext w wr) (fun i _ => n - (intOf i).toNat)
  case atStart => exact ⟨0, Nat.zero_le _, rfl, ⟨Nat.zero_le _, _, heap_alloc_new w _⟩, (Ext.refl _).alloc _⟩
  case round =>
    obtain ⟨k, hk, rfl, hd, hx⟩ := hrel
    by_cases hlt : k < n
    · obtain ⟨b, o, rfl, hb, hc⟩ := (hr.ext hx).at (by omega)
      obtain ⟨b', o', e, hb', _⟩ := hr.at (by omega)
      cases e
      have hck := hc k hlt
      obtain ⟨h, c0, c1, c2, hf, hgl⟩ := hd.cell
      have f2 := hf 2
      have hne : b ≠ w.heap.size := by omega
      have hki : (k : Int) < n := by omega
      have HS := Lib.hid (And.intro (fun x => hd.setH x) (fun x => hx.setCell (p := ⟨w.heap.size, 2, none⟩) (Nat.le_refl _) (.int .u64 x)))
      clear hc hf hd hx
      go_wp2
      go_region
      all_goals
        go_wp2
        go_roundw
        case rel => exact ⟨k + 1, by omega, by go_num, (HS.out.1 _).of_heap rfl, Still.ext_of (HS.out.2 _) rfl rfl rfl rfl⟩
        case measure => simp only [intOf]; omega
    · go_wp2
      go_ret
      exact ⟨_, rfl, Nat.le_refl _, hd, hx⟩

@[go_sem ↓ high] theorem Tryz.sameSpan10_op (x3 x4 : Int) (w : World) :
    (Op.equalIn 10000 60 (.agg #[.int .i64 x3, .int .i64 x4]) (.agg #[.int .i64 x3, .int .i64 x4])).run Tryz.prog w = .ok true w := Tryz.sameSpan_op 9998 x3 x4 w
theorem Tryz.eqGuardSpan : Tryz.prog.eqGuardType Tryz.prog.depth 60 = false := by kernel_rfl

set_option maxRecDepth 100000 in
set_option maxHeartbeats 1000000 in
theorem likeSpans_same (a b : Option Addr) (n c c' : Nat) (xs : List SpanV) (w : World) (ha : RdSpan w a n xs) (hb : RdSpan w b n xs) :
    Calls Tryz.prog 37 #[.slice a n c, .slice b n c'] w fun e w' => e = .returned (.bool true) ∧ Ext w w' := by
  have hm := ha.le
  have eg := Tryz.eqGuardSpan
  go_enter Tryz.func37, Tryz.ntmps37
  go_wp2
  go_loopw [5] (fun i wr => ∃ k : Nat, k ≤ n ∧ i = .int .i64 k ∧ Ext w wr) (fun i _ => n - (intOf i).toNat)
  case atStart => exact ⟨0, Nat.zero_le _, rfl, Ext.refl _⟩
  case round =>
    obtain ⟨k, hk, rfl, hx⟩ := hrel
    by_cases hlt : k < n
    · obtain ⟨b1, o1, rfl, hbl1, hA⟩ := (ha.ext hx).at (by omega)
      obtain ⟨b2, o2, rfl, hbl2, hB⟩ := (hb.ext hx).at (by omega)
      obtain ⟨hc0, hc1⟩ := hA k hlt
      obtain ⟨hd0, hd1⟩ := hB k hlt
      clear hA hB
      have hki : (k : Int) < n := by omega
      go_wp2
      go_still_tail 8, (by kernel_rfl)
      go_wp2
      go_roundw
      case rel => exact ⟨k + 1, by omega, by go_num, hx.drew⟩
      case measure => simp [intOf]; omega
    · obtain rfl : k = n := by omega
      go_wp2
      go_ret
      exact ⟨rfl, hx⟩

theorem drawOfficialYears_any (hAN : ANs) (a : Option Addr) (n c : Nat) (bs : List Int) (w : World) (hr : RdBy w a n bs) :
    Calls Tryz.prog 36 #[.slice a n c] w fun e w' => ∃ (a1 : Option Addr) (c1 : Nat) (xs : List NameV) (s : ByteArray), e = .returned (.tuple #[.slice a1 xs.length c1, .string s]) ∧ s.size ≤ 17 ∧ NewN w w' a1 c1 xs := by
  go_enter Tryz.func36, Tryz.ntmps36
  go_wp2_with fail
  refine (drawOfficialIn_any hAN _ _ _ _ _ hr).mono ?_
  rintro e w1 ⟨a1, c1, xs, s, y, rfl, hs, hn⟩
  have H := Lib.hid hn
  clear hn
  go_wp2
  go_ret2
  exact ⟨a1, c1, xs, s, rfl, hs, H.out⟩

theorem mask24 (Z : Int) (h0 : 0 ≤ Z) (h1 : Z ≤ 18446744073709551615) : ∃ y, bits .and .u64 (Z / 8589934592) 16777215 = y ∧ 0 ≤ y ∧ y ≤ 16777215 := by
  have e63 : ((2 : Int) ^ 63) = 9223372036854775808 := by decide
  have h := bits_mask .u64 63 (by decide) (fun n a b => IntWalk.u64_in n ⟨a, by rw [e63] at b; omega⟩) 24 (by decide) (Z / 8589934592) (by omega) (by rw [e63]; omega)
  have e : ((2 : Int) ^ 24 - 1) = 16777215 := by decide
  have e2 : ((2 : Int) ^ 24) = 16777216 := by decide
  rw [e, e2] at h
  exact ⟨_, h, by omega, by omega⟩
theorem u64_rng (z : Int) : 0 ≤ IntKind.u64.wrap z ∧ IntKind.u64.wrap z ≤ 18446744073709551615 := by
  have e : IntKind.u64.wrap z = z % 18446744073709551616 := by simp [IntKind.wrap, IntKind.bits, IntKind.signed]
  rw [e]; omega

set_option maxRecDepth 100000 in
set_option maxHeartbeats 2000000 in
theorem below_any (g : Nat) (a : Option Addr) (n c i : Nat) (bs : List Int) (m : Int) (w0 w : World) (hr : RdBy w0 a n bs) (hx : Ext w0 w) (hg : w0.heap.size ≤ g) (hd : DiceB w g a n c i) (hm0 : 0 < m) (hm1 : m ≤ 100000) :
    Calls Tryz.prog 39 #[.pointer (some ⟨g, 0, none⟩), .int .i64 m] w fun e w' => ∃ (x : Int) (j : Nat), e = .returned (.int .i64 x) ∧ 0 ≤ x ∧ x < m ∧ DiceB w' g a n c j ∧ Ext w0 w' := by
  have hm := hr.le
  obtain ⟨h, c0, c1, c2, hf, hgl⟩ := hd.cell
  have f1 := hf 1
  have f2 := hf 2
  obtain ⟨z0, z1⟩ := u64_rng (IntKind.u64.wrap (h * 6364136223846793005) + 1442695040888963407)
  obtain ⟨y, hy, y0, y1⟩ := mask24 (IntKind.u64.wrap (IntKind.u64.wrap (h * 6364136223846793005) + 1442695040888963407)) z0 z1
  have HS := Lib.hid (And.intro (fun x => hd.setH x) (fun x => hx.setCell (p := ⟨g, 2, none⟩) hg (.int .u64 x)))
  have hin := hd.1
  have hmz : ¬ m = 0 := by omega
  have hen : ∀ y : Int, 0 ≤ y % m ∧ y % m < m := fun y => ⟨Int.emod_nonneg _ (by omega), Int.emod_lt_of_pos _ (by omega)⟩
  have HE := Lib.hid hen
  have hwy : wrap64 y = y := IntWalk.wrap64_in _ (by omega)
  clear hf hd z0 z1 hen
  by_cases hlt : i < n
  · obtain ⟨b, o, rfl, hb, hc⟩ := hr.at (by omega)
    have hck := (Below.cell hx (p := ⟨b, o + i, none⟩) hb).trans (hc i hlt)
    obtain ⟨q0, q1⟩ := hr.byte i
    have hne : b ≠ g := by omega
    have hii : (i : Int) < n := by omega
    generalize nth bs i = q at *
    clear hc hx
    go_enter Tryz.func39, Tryz.ntmps39
    go_wp2
    go_quiet (fail)
    go_wp2
    go_quiet (fail)
    go_wp2
    go_ret
    have hd2 : ∀ x, DiceB ((w.setCell ⟨g, 2, none⟩ (.int .u64 x)).setCell ⟨g, 1, none⟩ (.int .i64 ((i : Int) + 1))) g (some ⟨b, o, none⟩) n c (i + 1) := fun x => by simpa using (HS.out.1 x).setI (j := i + 1) (by omega)
    exact ⟨_, i + 1, rfl, (HE.out _).1, (HE.out _).2, (hd2 _).of_heap rfl, Still.ext_of ((HS.out.2 _).setCell (p := ⟨g, 1, none⟩) hg (.int .i64 ((i : Int) + 1))) rfl rfl rfl rfl⟩
  · clear hx
    go_enter Tryz.func39, Tryz.ntmps39
    go_wp2
    go_quiet (fail)
    go_wp2
    go_ret
    exact ⟨_, i, rfl, (HE.out _).1, (HE.out _).2, (HS.out.1 _).of_heap rfl, Still.ext_of (HS.out.2 _) rfl rfl rfl rfl⟩

end Go.Proofs.YteencdgaldhanaaGreatDoor

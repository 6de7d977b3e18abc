/-
  IsPlace on both sides.
-/
import Derived.Test.YtjelmidkkpchkaaGreatDoorNPlace
import Derived.Test.YtjelmidkkpchkaaGreatDoorNA2
import Derived.Test.YtjelmidkkpchkaaGreatDoorRL
import Derived.Deep.RegionHeld3
import Derived.Deep.RegionWith
import Derived.Deep.RegionLaw
import Derived.Deep.DrawnRows
import Derived.Deep.QuietTactic
import Derived.BigQuiet
namespace Go.Proofs.YtjelmidkkpchkaaGreatDoor
open Go.RowKit
attribute [local go_sem ↓] Go.wp_at_zero Go.wp_at_succ

/-- Do the years of a name lie outside of these? -/
def outP (f t : Int) (x : NameV) : Bool := !(decide (f ≤ x.from_) && decide (x.to_ ≤ t))
def insB (x : PlaceV) : Bool := !anyP (outP x.from_ x.to_) x.names
def placeB (x : PlaceV) : Bool := wordB x.code && (inB x.klass 0 19 && (spanB ⟨x.from_, x.to_⟩ && (namesB x.names && insB x)))
def HoldsYears (w : World) (b : Nat) (f t : Int) : Prop := b < w.heap.size ∧ w.cell? ⟨b, 2, none⟩ = some (.int .i64 f) ∧ w.cell? ⟨b, 3, none⟩ = some (.int .i64 t)
theorem HoldsYears.ext {w w' : World} {b : Nat} {f t : Int} (h : HoldsYears w b f t) (x : Ext w w') : HoldsYears w' b f t :=
  ⟨Nat.lt_of_lt_of_le h.1 x.size, (Below.cell x (p := ⟨b, 2, none⟩) h.1).trans h.2.1, (Below.cell x (p := ⟨b, 3, none⟩) h.1).trans h.2.2⟩

set_option maxRecDepth 100000 in
set_option maxHeartbeats 400000 in
theorem lies_any (x y : SpanV) (w : World) :
    Calls Tryz.prog 155 #[valSpan x, valSpan y] w fun e w' => e = .returned (.bool (decide (y.from_ ≤ x.from_) && decide (x.to_ ≤ y.to_))) ∧ Ext w w' := by
  obtain ⟨x0, x1⟩ := x
  obtain ⟨y0, y1⟩ := y
  simp only [valSpan]
  by_cases h0 : y0 ≤ x0 <;> by_cases h1 : x1 ≤ y1
  all_goals
    go_enter Tryz.func155, Tryz.ntmps155
    go_wp2
    go_ret
    exact ⟨by simp [h0, h1], by repeat (first | exact Ext.refl _ | apply Ext.alloc)⟩

set_option maxRecDepth 100000 in
set_option maxHeartbeats 400000 in
theorem outClosure_any (x : NameV) (f t : Int) (b : Nat) (w : World) (hy : HoldsYears w b f t) :
    Calls Tryz.prog 154 #[valName x, .pointer (some ⟨b, 0, none⟩)] w fun e w' => e = .returned (.bool (outP f t x)) ∧ Ext w w' := by
  obtain ⟨x0, x1, x2, x3, x4⟩ := x
  have xb := (Ext.refl w).alloc (.cells #[.string x0, .string x1, .int .i64 x2, .int .i64 x3, .int .i64 x4] 69)
  obtain ⟨hb, c2, c3⟩ := hy.ext xb
  simp only [valName]
  go_enter Tryz.func154, Tryz.ntmps154
  go_wp2_with fail
  refine (lies_any ⟨x3, x4⟩ ⟨f, t⟩ _).mono ?_
  rintro e w1 ⟨rfl, e1⟩
  go_wp2
  go_ret
  exact ⟨by rw [outP, Bool.not_and]; rfl, xb.trans e1⟩

set_option maxRecDepth 100000 in
set_option maxHeartbeats 400000 in
theorem idxOut_any (a : Option Addr) (n c : Nat) (xs : List NameV) (p : NameV → Bool) (q0 : Addr) (w : World) (hr : RdName w a n xs) (hk : ∀ w1, Ext w w1 → ∀ k, k < n → Calls Tryz.prog 154 #[valName (nthName xs k), .pointer (some q0)] w1 fun e w2 => e = .returned (.bool (p (nthName xs k))) ∧ Ext w1 w2) :
    Calls Tryz.prog 139 #[.slice a n c, .func (.func 154) #[] #[.pointer (some q0)]] w fun e w' => e = .returned (.int .i64 (idxP p xs)) ∧ Ext w w' := by
  have hm := hr.le
  have hln := hr.len
  have HK := Lib.hid hk
  clear hk
  go_enter Tryz.func139, Tryz.ntmps139
  go_wp2
  go_loopw [8] (fun i wr => ∃ k : Nat, k ≤ n ∧ i = .int .i64 k ∧ (∀ j (hj : j < xs.length), j < k → p xs[j] = false) ∧ Ext w wr) (fun i _ => n - (intOf i).toNat)
  case atStart => exact ⟨0, Nat.zero_le _, rfl, fun j _ h => by omega, Ext.refl _⟩
  case round =>
    obtain ⟨k, hk, rfl, hall, hx⟩ := hrel
    have HA := Lib.hid hall
    clear hall
    by_cases hlt : k < n
    · obtain ⟨b, o, rfl, hbl, hA⟩ := (hr.ext hx).at (by omega)
      obtain ⟨hc0, hc1, hc2, hc3, hc4⟩ := hA k hlt
      clear hA
      have hki : (k : Int) < n := by omega
      have hget : xs[k]'(by omega) = nthName xs k := (nthName_eq (by omega)).symm
      cases hp : p (nthName xs k)
      · have HP := Lib.hid hp
        have HG := Lib.hid hget
        clear hp hget
        go_wp2_with (first | (go_at_call 154; refine (HK.out _ hx k hlt).mono ?_; rintro e w1 ⟨rfl, hx1⟩; rw [HP.out]))
        go_roundw
        case rel =>
          refine ⟨k + 1, by omega, by go_num, fun j hj hjk => ?_, hx.trans hx1⟩
          by_cases e : j = k
          · subst e; rw [HG.out]; exact HP.out
          · exact HA.out j hj (by omega)
        case measure => simp [intOf]; omega
      · have HP := Lib.hid hp
        have HG := Lib.hid hget
        clear hp hget
        go_wp2_with (first | (go_at_call 154; refine (HK.out _ hx k hlt).mono ?_; rintro e w1 ⟨rfl, hx1⟩; rw [HP.out]))
        go_ret
        exact ⟨ret_int (idxP_at (by omega) (by rw [HG.out]; exact HP.out) HA.out).symm, hx.trans hx1⟩
    · obtain rfl : k = n := by omega
      go_wp2
      go_ret
      exact ⟨ret_int (idxP_none (fun j hj => HA.out j hj (by omega))).symm, hx⟩

set_option maxHeartbeats 400000 in
theorem anyOut_any (a : Option Addr) (n c : Nat) (xs : List NameV) (p : NameV → Bool) (q0 : Addr) (w : World) (hr : RdName w a n xs) (hk : ∀ w1, Ext w w1 → ∀ k, k < n → Calls Tryz.prog 154 #[valName (nthName xs k), .pointer (some q0)] w1 fun e w2 => e = .returned (.bool (p (nthName xs k))) ∧ Ext w1 w2) :
    Calls Tryz.prog 95 #[.slice a n c, .func (.func 154) #[] #[.pointer (some q0)]] w fun e w' => e = .returned (.bool (anyP p xs)) ∧ Ext w w' := by
  go_enter Tryz.func95, Tryz.ntmps95
  go_wp2_with fail
  refine (idxOut_any _ _ _ _ p _ _ hr hk).mono ?_
  rintro e w' ⟨rfl, hx⟩
  go_wp2
  go_ret
  exact ⟨ret_bool rfl, hx⟩

set_option maxRecDepth 100000 in
set_option maxHeartbeats 2000000 in
theorem implIsPlace_any (x : PlaceV) (r : Ref) (w : World) (hx : NamesAt w r x) (hmax : MaxW w) :
    Calls Tryz.prog 117 #[valPlace x r] w fun e w' => e = .returned (.bool (placeB x)) ∧ Ext w w' := by
  obtain ⟨v0, v1, v2, v3, v4⟩ := x
  obtain ⟨ra, rn, rc⟩ := r
  obtain ⟨hna, hcp, hsz, hnn⟩ := hx
  simp only [valPlace, placeB] at hna hcp hsz hnn ⊢
  have xb := (Ext.refl w).alloc (.cells #[.string v0, .int .i64 v1, .int .i64 v2, .int .i64 v3, .slice ra rn rc] 67)
  cases h0 : wordB v0
  · have HZ0 := Lib.hid h0
    clear h0
    go_enter Tryz.func117, Tryz.ntmps117
    go_wp2_with fail
    refine (implIsWord_any v0 _ (by omega)).mono ?_
    rintro e w1 ⟨rfl, e1⟩
    rw [HZ0.out]
    have b1_0 : _ = some (Value.string v0) := box_keptG e1 0
    have b1_1 : _ = some (Value.int .i64 v1) := box_keptG e1 1
    have b1_2 : _ = some (Value.int .i64 v2) := box_keptG e1 2
    have b1_3 : _ = some (Value.int .i64 v3) := box_keptG e1 3
    have b1_4 : _ = some (Value.slice ra rn rc) := box_keptG e1 4
    go_wp2
    go_ret
    exact ⟨ret_bool (by simp), (xb.trans e1)⟩
  cases h1 : inB v1 0 19
  · have HZ0 := Lib.hid h0
    have HZ1 := Lib.hid h1
    clear h0 h1
    go_enter Tryz.func117, Tryz.ntmps117
    go_wp2_with fail
    refine (implIsWord_any v0 _ (by omega)).mono ?_
    rintro e w1 ⟨rfl, e1⟩
    rw [HZ0.out]
    have b1_0 : _ = some (Value.string v0) := box_keptG e1 0
    have b1_1 : _ = some (Value.int .i64 v1) := box_keptG e1 1
    have b1_2 : _ = some (Value.int .i64 v2) := box_keptG e1 2
    have b1_3 : _ = some (Value.int .i64 v3) := box_keptG e1 3
    have b1_4 : _ = some (Value.slice ra rn rc) := box_keptG e1 4
    go_wp2_with fail
    refine (within_any _ _ _ _).mono ?_
    rintro e w2 ⟨rfl, rfl⟩
    rw [HZ1.out]
    go_wp2
    go_ret
    exact ⟨ret_bool (by simp), (xb.trans e1)⟩
  cases h2 : spanB ⟨v2, v3⟩
  · have HZ0 := Lib.hid h0
    have HZ1 := Lib.hid h1
    have HZ2 := Lib.hid h2
    clear h0 h1 h2
    go_enter Tryz.func117, Tryz.ntmps117
    go_wp2_with fail
    refine (implIsWord_any v0 _ (by omega)).mono ?_
    rintro e w1 ⟨rfl, e1⟩
    rw [HZ0.out]
    have b1_0 : _ = some (Value.string v0) := box_keptG e1 0
    have b1_1 : _ = some (Value.int .i64 v1) := box_keptG e1 1
    have b1_2 : _ = some (Value.int .i64 v2) := box_keptG e1 2
    have b1_3 : _ = some (Value.int .i64 v3) := box_keptG e1 3
    have b1_4 : _ = some (Value.slice ra rn rc) := box_keptG e1 4
    go_wp2_with fail
    refine (within_any _ _ _ _).mono ?_
    rintro e w2 ⟨rfl, rfl⟩
    rw [HZ1.out]
    go_wp2_with fail
    refine (implIsSpan_any ⟨v2, v3⟩ _).mono ?_
    rintro e w3 ⟨rfl, e3⟩
    rw [HZ2.out]
    have b3_0 : _ = some (Value.string v0) := box_keptG (e1.trans e3) 0
    have b3_1 : _ = some (Value.int .i64 v1) := box_keptG (e1.trans e3) 1
    have b3_2 : _ = some (Value.int .i64 v2) := box_keptG (e1.trans e3) 2
    have b3_3 : _ = some (Value.int .i64 v3) := box_keptG (e1.trans e3) 3
    have b3_4 : _ = some (Value.slice ra rn rc) := box_keptG (e1.trans e3) 4
    go_wp2
    go_ret
    exact ⟨ret_bool (by simp), ((xb.trans e1).trans e3)⟩
  cases h3 : namesB v4
  · have HZ0 := Lib.hid h0
    have HZ1 := Lib.hid h1
    have HZ2 := Lib.hid h2
    have HZ3 := Lib.hid h3
    clear h0 h1 h2 h3
    go_enter Tryz.func117, Tryz.ntmps117
    go_wp2_with fail
    refine (implIsWord_any v0 _ (by omega)).mono ?_
    rintro e w1 ⟨rfl, e1⟩
    rw [HZ0.out]
    have b1_0 : _ = some (Value.string v0) := box_keptG e1 0
    have b1_1 : _ = some (Value.int .i64 v1) := box_keptG e1 1
    have b1_2 : _ = some (Value.int .i64 v2) := box_keptG e1 2
    have b1_3 : _ = some (Value.int .i64 v3) := box_keptG e1 3
    have b1_4 : _ = some (Value.slice ra rn rc) := box_keptG e1 4
    go_wp2_with fail
    refine (within_any _ _ _ _).mono ?_
    rintro e w2 ⟨rfl, rfl⟩
    rw [HZ1.out]
    go_wp2_with fail
    refine (implIsSpan_any ⟨v2, v3⟩ _).mono ?_
    rintro e w3 ⟨rfl, e3⟩
    rw [HZ2.out]
    have b3_0 : _ = some (Value.string v0) := box_keptG (e1.trans e3) 0
    have b3_1 : _ = some (Value.int .i64 v1) := box_keptG (e1.trans e3) 1
    have b3_2 : _ = some (Value.int .i64 v2) := box_keptG (e1.trans e3) 2
    have b3_3 : _ = some (Value.int .i64 v3) := box_keptG (e1.trans e3) 3
    have b3_4 : _ = some (Value.slice ra rn rc) := box_keptG (e1.trans e3) 4
    go_wp2_with fail
    refine (implAreNames_any _ _ _ _ _ (hna.ext ((xb.trans e1).trans e3)) hcp (hmax.ext ((xb.trans e1).trans e3))).mono ?_
    rintro e w4 ⟨rfl, e4⟩
    rw [HZ3.out]
    have b4_0 : _ = some (Value.string v0) := box_keptG ((e1.trans e3).trans e4) 0
    have b4_1 : _ = some (Value.int .i64 v1) := box_keptG ((e1.trans e3).trans e4) 1
    have b4_2 : _ = some (Value.int .i64 v2) := box_keptG ((e1.trans e3).trans e4) 2
    have b4_3 : _ = some (Value.int .i64 v3) := box_keptG ((e1.trans e3).trans e4) 3
    have b4_4 : _ = some (Value.slice ra rn rc) := box_keptG ((e1.trans e3).trans e4) 4
    go_wp2
    go_ret
    exact ⟨ret_bool (by simp), (((xb.trans e1).trans e3).trans e4)⟩
  · have HZ0 := Lib.hid h0
    have HZ1 := Lib.hid h1
    have HZ2 := Lib.hid h2
    have HZ3 := Lib.hid h3
    clear h0 h1 h2 h3
    go_enter Tryz.func117, Tryz.ntmps117
    go_wp2_with fail
    refine (implIsWord_any v0 _ (by omega)).mono ?_
    rintro e w1 ⟨rfl, e1⟩
    rw [HZ0.out]
    have b1_0 : _ = some (Value.string v0) := box_keptG e1 0
    have b1_1 : _ = some (Value.int .i64 v1) := box_keptG e1 1
    have b1_2 : _ = some (Value.int .i64 v2) := box_keptG e1 2
    have b1_3 : _ = some (Value.int .i64 v3) := box_keptG e1 3
    have b1_4 : _ = some (Value.slice ra rn rc) := box_keptG e1 4
    go_wp2_with fail
    refine (within_any _ _ _ _).mono ?_
    rintro e w2 ⟨rfl, rfl⟩
    rw [HZ1.out]
    go_wp2_with fail
    refine (implIsSpan_any ⟨v2, v3⟩ _).mono ?_
    rintro e w3 ⟨rfl, e3⟩
    rw [HZ2.out]
    have b3_0 : _ = some (Value.string v0) := box_keptG (e1.trans e3) 0
    have b3_1 : _ = some (Value.int .i64 v1) := box_keptG (e1.trans e3) 1
    have b3_2 : _ = some (Value.int .i64 v2) := box_keptG (e1.trans e3) 2
    have b3_3 : _ = some (Value.int .i64 v3) := box_keptG (e1.trans e3) 3
    have b3_4 : _ = some (Value.slice ra rn rc) := box_keptG (e1.trans e3) 4
    go_wp2_with fail
    refine (implAreNames_any _ _ _ _ _ (hna.ext ((xb.trans e1).trans e3)) hcp (hmax.ext ((xb.trans e1).trans e3))).mono ?_
    rintro e w4 ⟨rfl, e4⟩
    rw [HZ3.out]
    have b4_0 : _ = some (Value.string v0) := box_keptG ((e1.trans e3).trans e4) 0
    have b4_1 : _ = some (Value.int .i64 v1) := box_keptG ((e1.trans e3).trans e4) 1
    have b4_2 : _ = some (Value.int .i64 v2) := box_keptG ((e1.trans e3).trans e4) 2
    have b4_3 : _ = some (Value.int .i64 v3) := box_keptG ((e1.trans e3).trans e4) 3
    have b4_4 : _ = some (Value.slice ra rn rc) := box_keptG ((e1.trans e3).trans e4) 4
    have HY : HoldsYears _ w.heap.size v2 v3 := ⟨by have := ((e1.trans e3).trans e4).size; simp at this; omega, box_keptG ((e1.trans e3).trans e4) 2, box_keptG ((e1.trans e3).trans e4) 3⟩
    have HH := Lib.hid HY
    clear HY
    go_wp2_with fail
    refine (anyOut_any _ _ _ _ (outP v2 v3) ⟨w.heap.size, 0, none⟩ _ (hna.ext (((xb.trans e1).trans e3).trans e4)) (fun w2 hx2 j hj => outClosure_any _ _ _ _ _ (HH.out.ext hx2))).mono ?_
    rintro e w9 ⟨rfl, e9⟩
    go_wp2
    go_ret
    exact ⟨ret_bool (by rw [insB]; rfl), (((xb.trans e1).trans e3).trans e4).trans e9⟩

set_option maxRecDepth 100000 in
set_option maxHeartbeats 2000000 in
theorem specIsPlace_any (x : PlaceV) (r : Ref) (w : World) (hx : NamesAt w r x) :
    Calls Tryz.prog 141 #[valPlace x r] w fun e w' => e = .returned (.bool (placeB x)) ∧ Ext w w' := by
  obtain ⟨v0, v1, v2, v3, v4⟩ := x
  obtain ⟨ra, rn, rc⟩ := r
  obtain ⟨hna, hcp, hsz, hnn⟩ := hx
  simp only [valPlace, placeB] at hna hcp hsz hnn ⊢
  have xb := (Ext.refl w).alloc (.cells #[.string v0, .int .i64 v1, .int .i64 v2, .int .i64 v3, .slice ra rn rc] 67)
  cases h0 : wordB v0
  · have HZ0 := Lib.hid h0
    clear h0
    go_enter Tryz.func141, Tryz.ntmps141
    go_wp2_with fail
    refine (specIsWord_any v0 _ (by omega)).mono ?_
    rintro e w1 ⟨rfl, rfl⟩
    rw [HZ0.out]
    go_wp2
    go_ret
    exact ⟨ret_bool (by simp), xb⟩
  cases h1 : inB v1 0 19
  · have HZ0 := Lib.hid h0
    have HZ1 := Lib.hid h1
    clear h0 h1
    go_enter Tryz.func141, Tryz.ntmps141
    go_wp2_with fail
    refine (specIsWord_any v0 _ (by omega)).mono ?_
    rintro e w1 ⟨rfl, rfl⟩
    rw [HZ0.out]
    go_wp2_with fail
    refine (l01In_any _ _ _ _).mono ?_
    rintro e w2 ⟨rfl, rfl⟩
    rw [HZ1.out]
    go_wp2
    go_ret
    exact ⟨ret_bool (by simp), xb⟩
  cases h2 : spanB ⟨v2, v3⟩
  · have HZ0 := Lib.hid h0
    have HZ1 := Lib.hid h1
    have HZ2 := Lib.hid h2
    clear h0 h1 h2
    go_enter Tryz.func141, Tryz.ntmps141
    go_wp2_with fail
    refine (specIsWord_any v0 _ (by omega)).mono ?_
    rintro e w1 ⟨rfl, rfl⟩
    rw [HZ0.out]
    go_wp2_with fail
    refine (l01In_any _ _ _ _).mono ?_
    rintro e w2 ⟨rfl, rfl⟩
    rw [HZ1.out]
    go_wp2_with fail
    refine (specIsSpan_any ⟨v2, v3⟩ _).mono ?_
    rintro e w3 ⟨rfl, e3⟩
    rw [HZ2.out]
    have b3_0 : _ = some (Value.string v0) := box_keptG e3 0
    have b3_1 : _ = some (Value.int .i64 v1) := box_keptG e3 1
    have b3_2 : _ = some (Value.int .i64 v2) := box_keptG e3 2
    have b3_3 : _ = some (Value.int .i64 v3) := box_keptG e3 3
    have b3_4 : _ = some (Value.slice ra rn rc) := box_keptG e3 4
    go_wp2
    go_ret
    exact ⟨ret_bool (by simp), (xb.trans e3)⟩
  cases h3 : namesB v4
  · have HZ0 := Lib.hid h0
    have HZ1 := Lib.hid h1
    have HZ2 := Lib.hid h2
    have HZ3 := Lib.hid h3
    clear h0 h1 h2 h3
    go_enter Tryz.func141, Tryz.ntmps141
    go_wp2_with fail
    refine (specIsWord_any v0 _ (by omega)).mono ?_
    rintro e w1 ⟨rfl, rfl⟩
    rw [HZ0.out]
    go_wp2_with fail
    refine (l01In_any _ _ _ _).mono ?_
    rintro e w2 ⟨rfl, rfl⟩
    rw [HZ1.out]
    go_wp2_with fail
    refine (specIsSpan_any ⟨v2, v3⟩ _).mono ?_
    rintro e w3 ⟨rfl, e3⟩
    rw [HZ2.out]
    have b3_0 : _ = some (Value.string v0) := box_keptG e3 0
    have b3_1 : _ = some (Value.int .i64 v1) := box_keptG e3 1
    have b3_2 : _ = some (Value.int .i64 v2) := box_keptG e3 2
    have b3_3 : _ = some (Value.int .i64 v3) := box_keptG e3 3
    have b3_4 : _ = some (Value.slice ra rn rc) := box_keptG e3 4
    go_wp2_with fail
    refine (specAreNames_any _ _ _ _ _ (hna.ext (xb.trans e3))).mono ?_
    rintro e w4 ⟨rfl, e4⟩
    rw [HZ3.out]
    have b4_0 : _ = some (Value.string v0) := box_keptG (e3.trans e4) 0
    have b4_1 : _ = some (Value.int .i64 v1) := box_keptG (e3.trans e4) 1
    have b4_2 : _ = some (Value.int .i64 v2) := box_keptG (e3.trans e4) 2
    have b4_3 : _ = some (Value.int .i64 v3) := box_keptG (e3.trans e4) 3
    have b4_4 : _ = some (Value.slice ra rn rc) := box_keptG (e3.trans e4) 4
    go_wp2
    go_ret
    exact ⟨ret_bool (by simp), ((xb.trans e3).trans e4)⟩
  · have HZ0 := Lib.hid h0
    have HZ1 := Lib.hid h1
    have HZ2 := Lib.hid h2
    have HZ3 := Lib.hid h3
    clear h0 h1 h2 h3
    go_enter Tryz.func141, Tryz.ntmps141
    go_wp2_with fail
    refine (specIsWord_any v0 _ (by omega)).mono ?_
    rintro e w1 ⟨rfl, rfl⟩
    rw [HZ0.out]
    go_wp2_with fail
    refine (l01In_any _ _ _ _).mono ?_
    rintro e w2 ⟨rfl, rfl⟩
    rw [HZ1.out]
    go_wp2_with fail
    refine (specIsSpan_any ⟨v2, v3⟩ _).mono ?_
    rintro e w3 ⟨rfl, e3⟩
    rw [HZ2.out]
    have b3_0 : _ = some (Value.string v0) := box_keptG e3 0
    have b3_1 : _ = some (Value.int .i64 v1) := box_keptG e3 1
    have b3_2 : _ = some (Value.int .i64 v2) := box_keptG e3 2
    have b3_3 : _ = some (Value.int .i64 v3) := box_keptG e3 3
    have b3_4 : _ = some (Value.slice ra rn rc) := box_keptG e3 4
    go_wp2_with fail
    refine (specAreNames_any _ _ _ _ _ (hna.ext (xb.trans e3))).mono ?_
    rintro e w4 ⟨rfl, e4⟩
    rw [HZ3.out]
    have b4_0 : _ = some (Value.string v0) := box_keptG (e3.trans e4) 0
    have b4_1 : _ = some (Value.int .i64 v1) := box_keptG (e3.trans e4) 1
    have b4_2 : _ = some (Value.int .i64 v2) := box_keptG (e3.trans e4) 2
    have b4_3 : _ = some (Value.int .i64 v3) := box_keptG (e3.trans e4) 3
    have b4_4 : _ = some (Value.slice ra rn rc) := box_keptG (e3.trans e4) 4
    have hxx := ((xb.trans e3).trans e4)
    have hbx := (e3.trans e4)
    have hln := hna.len
    generalize hw4 : w4 = w5 at *
    go_wp2
    go_loopw [3] (fun i wr => ∃ k : Nat, k ≤ rn ∧ i = .int .i64 k ∧ (∀ j (hj : j < v4.length), j < k → outP v2 v3 v4[j] = false) ∧ Ext w5 wr) (fun i _ => rn - (intOf i).toNat)
    case atStart => exact ⟨0, Nat.zero_le _, rfl, fun j _ h => by omega, Ext.refl _⟩
    case round =>
      obtain ⟨k, hk, rfl, hall, hx⟩ := hrel
      have HA := Lib.hid hall
      clear hall
      have d0 : _ = some (Value.string v0) := box_keptG (hbx.trans hx) 0
      have d2 : _ = some (Value.int .i64 v2) := box_keptG (hbx.trans hx) 2
      have d3 : _ = some (Value.int .i64 v3) := box_keptG (hbx.trans hx) 3
      have d4 : _ = some (Value.slice ra rn rc) := box_keptG (hbx.trans hx) 4
      by_cases hlt : k < rn
      · obtain ⟨b, o, hra, hbl, hA⟩ := (hna.ext (hxx.trans hx)).at (by omega)
        subst hra
        obtain ⟨hc0, hc1, hc2, hc3, hc4⟩ := hA k hlt
        clear hA
        have hki : (k : Int) < rn := by omega
        have hget : v4[k]'(by omega) = nthName v4 k := (nthName_eq (by omega)).symm
        have HG := Lib.hid hget
        clear hget
        by_cases hf : v2 ≤ (nthName v4 k).from_
        · by_cases ht : (nthName v4 k).to_ ≤ v3
          · go_wp2
            first | (go_quiet (fail)) | skip
            go_wp2
            go_roundw
            case rel =>
              refine ⟨k + 1, by omega, by go_num, fun j hj hjk => ?_, ?_⟩
              · by_cases e : j = k
                · subst e; rw [HG.out, outP]; simp [hf, ht]
                · exact HA.out j hj (by omega)
              · first | exact hx.drewN _ | exact hx.drew | exact hx
            case measure => simp [intOf]; omega
          · have ht2 : v3 < (nthName v4 k).to_ := by omega
            go_wp2
            first | (go_quiet (fail)) | skip
            go_wp2
            go_ret
            refine ⟨ret_bool ?_, ?_⟩
            · rw [insB, anyP_at (k := k) (show k < v4.length by omega) (by rw [HG.out, outP]; simp [ht])]; rfl
            · first | exact hxx.trans (hx.drewN _) | exact hxx.trans hx.drew | exact hxx.trans hx
        · have hf2 : (nthName v4 k).from_ < v2 := by omega
          go_wp2
          first | (go_quiet (fail)) | skip
          go_wp2
          go_ret
          refine ⟨ret_bool ?_, ?_⟩
          · rw [insB, anyP_at (k := k) (show k < v4.length by omega) (by rw [HG.out, outP]; simp [hf])]; rfl
          · first | exact hxx.trans (hx.drewN _) | exact hxx.trans hx.drew | exact hxx.trans hx
      · obtain rfl : k = rn := by omega
        go_wp2
        go_ret
        exact ⟨ret_bool (by rw [insB, anyP_none fun j hj => HA.out j hj (by omega)]; rfl), hxx.trans hx⟩

end Go.Proofs.YtjelmidkkpchkaaGreatDoor

/-
  PlacesIn on both sides.
-/
import Derived.Test.YtjelmidkkpchkaaGreatDoorCO
namespace Go.Proofs.YtjelmidkkpchkaaGreatDoor
open Go.RowKit
attribute [local go_sem ↓] Go.wp_at_zero Go.wp_at_succ

def HoldsInt (w : World) (b : Nat) (y : Int) : Prop := b < w.heap.size ∧ w.cell? ⟨b, 0, none⟩ = some (.int .i64 y)
theorem HoldsInt.ext {w w' : World} {b : Nat} {y : Int} (h : HoldsInt w b y) (x : Ext w w') : HoldsInt w' b y := ⟨Nat.lt_of_lt_of_le h.1 x.size, (Below.cell x (p := ⟨b, 0, none⟩) h.1).trans h.2⟩
def inP (y : Int) (x : PlaceV) : Bool := inB y x.from_ x.to_

set_option maxHeartbeats 400000 in
theorem inClosure_any (x : PlaceV) (r : Ref) (b : Nat) (y : Int) (w : World) (hy : HoldsInt w b y) :
    Calls Tryz.prog 71 #[valPlace x r, .pointer (some ⟨b, 0, none⟩)] w fun e w' => e = .returned (.bool (inP y x)) ∧ Ext w w' := by
  obtain ⟨v0, v1, v2, v3, v4⟩ := x
  obtain ⟨ra, rn, rc⟩ := r
  simp only [valPlace]
  have xb := (Ext.refl w).alloc (.cells #[.string v0, .int .i64 v1, .int .i64 v2, .int .i64 v3, .slice ra rn rc] 67)
  obtain ⟨h1, h2⟩ := hy.ext xb
  go_enter Tryz.func71, Tryz.ntmps71
  go_wp2_with fail
  refine (has_any ⟨v2, v3⟩ y _).mono ?_
  rintro e w1 ⟨rfl, e1⟩
  go_wp2
  go_ret
  exact ⟨rfl, xb.trans e1⟩

set_option maxHeartbeats 400000 in
theorem l11Exists_any (x : PlaceV) (r : Ref) (y : Int) (w : World) :
    Calls Tryz.prog 56 #[valPlace x r, .int .i64 y] w fun e w' => e = .returned (.bool (inP y x)) ∧ Ext w w' := by
  obtain ⟨v0, v1, v2, v3, v4⟩ := x
  obtain ⟨ra, rn, rc⟩ := r
  simp only [valPlace]
  have xb := (Ext.refl w).alloc (.cells #[.string v0, .int .i64 v1, .int .i64 v2, .int .i64 v3, .slice ra rn rc] 67)
  go_enter Tryz.func56, Tryz.ntmps56
  go_wp2_with (first | (go_at_call 55; refine (l01In_any _ _ _ _).mono ?_; rintro e w' ⟨rfl, rfl⟩))
  go_ret
  exact ⟨rfl, xb⟩

def inL (xs : List PlaceV) (y : Int) : List ByteArray := if codeP xs true y = 0 then pickL (inP y) PlaceV.code xs xs.length else []

set_option maxRecDepth 100000 in
set_option maxHeartbeats 1000000 in
theorem implPlacesIn_any (a : Option Addr) (n c : Nat) (y : Int) (xs : List PlaceV) (w : World) (hr : RdPlace w a n xs) (hcap : n ≤ c) (hmax : MaxW w) :
    Calls Tryz.prog 20 #[.slice a n c, .int .i64 y] w (RetTC w (inL xs y) (codeP xs true y)) := by
  have hln := hr.len
  have xb := (Ext.refl w).alloc (.cells #[.int .i64 y] 2)
  by_cases hc : codeP xs true y = 0
  · have hL : inL xs y = pickL (inP y) PlaceV.code xs n := by rw [inL, if_pos hc, hln]
    have hlen := (regB_at (codeP_zero hc).1).2
    have HZ := Lib.hid (And.intro hc hL)
    clear hc hL
    go_enter Tryz.func20, Tryz.ntmps20
    go_wp2_with fail
    refine (registerCode_any _ _ _ _ _ _ _ (hr.ext xb) hcap (hmax.ext xb)).mono ?_
    rintro e w1 ⟨rfl, e1⟩
    rw [HZ.out.1]
    have hi : HoldsInt w1 w.heap.size y := ⟨by have := e1.size; simp at this; omega, box_keptG e1 0⟩
    have HI := Lib.hid hi
    clear hi
    go_wp2_with fail
    refine (codesIn_any _ _ _ xs (inP y) ⟨w.heap.size, 0, none⟩ _ (hr.ext (xb.trans e1)) (by omega) (fun w2 hx k hk r _ => inClosure_any _ _ _ _ _ (HI.out.ext hx))).mono ?_
    rintro e w2 ⟨v, rfl, a1, n1, c1, rfl, hn1, o2, e2⟩
    go_wp2
    go_ret2
    rw [HZ.out.1, HZ.out.2]
    exact ⟨_, rfl, a1, n1, c1, rfl, by omega, o2.mono (xb.trans e1).size, (xb.trans e1).trans e2⟩
  · have hb : (codeP xs true y == 0) = false := by simpa using hc
    have HZ := Lib.hid (show inL xs y = [] from if_neg hc)
    clear hc
    go_enter Tryz.func20, Tryz.ntmps20
    go_wp2_with fail
    refine (registerCode_any _ _ _ _ _ _ _ (hr.ext xb) hcap (hmax.ext xb)).mono ?_
    rintro e w1 ⟨rfl, e1⟩
    go_wp2
    go_ret2
    rw [HZ.out]
    exact ⟨_, rfl, _, _, _, rfl, by omega, ⟨OwnG.isNil _ _ _ _, by simp⟩, xb.trans e1⟩

end Go.Proofs.YtjelmidkkpchkaaGreatDoor

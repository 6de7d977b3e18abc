/-
  PlacesIn on both sides.
-/
import Derived.Test.YtopfnfaoomigmaaDoorCO
namespace Go.Proofs.YtopfnfaoomigmaaDoor
open Go.RowKit
attribute [local go_sem ↓] Go.wp_at_zero Go.wp_at_succ

def HoldsInt (w : World) (b : Nat) (y : Int) : Prop := b < w.heap.size ∧ w.cell? ⟨b, 0, none⟩ = some (.int .i64 y)
theorem HoldsInt.ext {w w' : World} {b : Nat} {y : Int} (h : HoldsInt w b y) (x : Ext w w') : HoldsInt w' b y := ⟨Nat.lt_of_lt_of_le h.1 x.size, (Below.cell x (p := ⟨b, 0, none⟩) h.1).trans h.2⟩
def inP (y : Int) (x : PlaceV) : Bool := inB y x.from_ x.to_

set_option maxHeartbeats 400000 in
theorem inClosure_any (x : PlaceV) (r : Ref) (b : Nat) (y : Int) (w : World) (hy : HoldsInt w b y) :
    Calls Tryd.prog 51 #[valPlace x r, .pointer (some ⟨b, 0, none⟩)] w fun e w' => e = .returned (.bool (inP y x)) ∧ Ext w w' := by
  obtain ⟨v0, v1, v2, v3, v4⟩ := x
  obtain ⟨ra, rn, rc⟩ := r
  simp only [valPlace]
  have xb := (Ext.refl w).alloc (.cells #[.string v0, .int .i64 v1, .int .i64 v2, .int .i64 v3, .slice ra rn rc] 32)
  obtain ⟨h1, h2⟩ := hy.ext xb
  go_enter Tryd.func51, Tryd.ntmps51
  go_wp2_with fail
  refine (has_any ⟨v2, v3⟩ y _).mono ?_
  rintro e w1 ⟨rfl, e1⟩
  go_wp2
  go_ret
  exact ⟨rfl, xb.trans e1⟩

set_option maxHeartbeats 400000 in
theorem l11Exists_any (x : PlaceV) (r : Ref) (y : Int) (w : World) :
    Calls Tryd.prog 48 #[valPlace x r, .int .i64 y] w fun e w' => e = .returned (.bool (inP y x)) ∧ Ext w w' := by
  obtain ⟨v0, v1, v2, v3, v4⟩ := x
  obtain ⟨ra, rn, rc⟩ := r
  simp only [valPlace]
  have xb := (Ext.refl w).alloc (.cells #[.string v0, .int .i64 v1, .int .i64 v2, .int .i64 v3, .slice ra rn rc] 32)
  go_enter Tryd.func48, Tryd.ntmps48
  go_wp2_with (first | (go_at_call 30; refine (l01In_any _ _ _ _).mono ?_; rintro e w' ⟨rfl, rfl⟩))
  go_ret
  exact ⟨rfl, xb⟩

def inL (xs : List PlaceV) (y : Int) : List ByteArray := if codeP xs true y = 0 then pickL (inP y) PlaceV.code xs xs.length else []

set_option maxRecDepth 100000 in
set_option maxHeartbeats 1000000 in
theorem implPlacesIn_any (a : Option Addr) (n c : Nat) (y : Int) (xs : List PlaceV) (w : World) (hr : RdPlace w a n xs) (hcap : n ≤ c) (hmax : MaxW w) :
    Calls Tryd.prog 21 #[.slice a n c, .int .i64 y] w (RetTC w (inL xs y) (codeP xs true y)) := by
  have hln := hr.len
  have xb := (Ext.refl w).alloc (.cells #[.int .i64 y] 2)
  by_cases hc : codeP xs true y = 0
  · have hL : inL xs y = pickL (inP y) PlaceV.code xs n := by rw [inL, if_pos hc, hln]
    have hlen := (regB_at (codeP_zero hc).1).2
    have HZ := Lib.hid (And.intro hc hL)
    clear hc hL
    go_enter Tryd.func21, Tryd.ntmps21
    go_wp2_with fail
    refine (registerCode_any _ _ _ _ _ _ _ (hr.ext xb) hcap (hmax.ext xb)).mono ?_
    rintro e w1 ⟨rfl, e1⟩
    rw [HZ.out.1]
    have hi : HoldsInt w1 w.heap.size y := ⟨by have := e1.size; simp at this; omega, box_keptG e1 0⟩
    have HI := Lib.hid hi
    clear hi
    go_wp2_with fail
    refine (codesIn_any _ _ _ xs (inP y) ⟨w.heap.size, 0, none⟩ _ (hr.ext (xb.trans e1)) (by omega) (fun w2 hx k hk r _ => inClosure_any _ _ _ _ _ (HI.out.ext hx))).mono ?_
    rintro e w2 ⟨v, rfl, a1, n1, c1, rfl, hn1, o2, e2⟩
    go_wp2
    go_ret2
    rw [HZ.out.1, HZ.out.2]
    exact ⟨_, rfl, a1, n1, c1, rfl, by omega, o2.mono (xb.trans e1).size, (xb.trans e1).trans e2⟩
  · have hb : (codeP xs true y == 0) = false := by simpa using hc
    have HZ := Lib.hid (show inL xs y = [] from if_neg hc)
    clear hc
    go_enter Tryd.func21, Tryd.ntmps21
    go_wp2_with fail
    refine (registerCode_any _ _ _ _ _ _ _ (hr.ext xb) hcap (hmax.ext xb)).mono ?_
    rintro e w1 ⟨rfl, e1⟩
    go_wp2
    go_ret2
    rw [HZ.out]
    exact ⟨_, rfl, _, _, _, rfl, by omega, ⟨OwnG.isNil _ _ _ _, by simp⟩, xb.trans e1⟩

set_option maxRecDepth 100000 in
set_option maxHeartbeats 2000000 in
theorem specPlacesIn_any (a : Option Addr) (n c : Nat) (y : Int) (xs : List PlaceV) (w : World) (hr : RdPlace w a n xs) :
    Calls Tryd.prog 20 #[.slice a n c, .int .i64 y] w (RetTC w (inL xs y) (codeP xs true y)) := by
  have hln := hr.len
  by_cases hc : codeP xs true y = 0
  · have hL : inL xs y = pickL (inP y) PlaceV.code xs n := by rw [inL, if_pos hc, hln]
    have hlen := (regB_at (codeP_zero hc).1).2
    have HZ := Lib.hid (And.intro hc hL)
    clear hc hL
    obtain ⟨f, hr⟩ := hr
    go_enter Tryd.func20, Tryd.ntmps20
    go_wp2_with fail
    refine (l11Year_any _ _ _ _ _ _ ⟨f, hr⟩).mono ?_
    rintro e w1 ⟨rfl, e0⟩
    rw [HZ.out.1]
    go_wp2
    go_loopw [7, 8] (fun v i wr => ∃ (k : Nat) (l : List ByteArray) (a1 : Option Addr) (c1 : Nat), k ≤ n ∧ i = .int .i64 k ∧ v = .slice a1 l.length c1 ∧ l = pickL (inP y) PlaceV.code xs k ∧ OwnG layS 9 wr w.heap.size a1 l.length c1 l ∧ Ext w wr) (fun _ i _ => n - (intOf i).toNat)
    case atStart => exact ⟨0, [], _, _, Nat.zero_le _, rfl, rfl, (pick_zero _ _ _).symm, OwnG.lit layS 9 _ e0.size [] #[] rfl (by simp), e0.alloc _⟩
    case round =>
      obtain ⟨k, l, a1, c1, hk, rfl, rfl, hl, ho, hx⟩ := hrel
      have HL := Lib.hid hl
      have hll : l.length ≤ k := by rw [hl]; exact pick_len _ _ _ _
      clear hl
      by_cases hlt : k < n
      · obtain ⟨b, o, rfl, hbl, hA⟩ := (hr.ext hx).at (by omega)
        obtain ⟨hc0, hc1, hc2, hc3, hc4⟩ := hA k hlt
        have hki : (k : Int) < n := by omega
        have hget : xs[k]? = some (nthPlace xs k) := by rw [nthPlace_eq (by omega)]; exact List.getElem?_eq_getElem (by omega)
        clear hA
        cases hp : inP y (nthPlace xs k)
        · have HS := Lib.hid (And.intro (pick_out (p := inP y) (f := PlaceV.code) hget hp) hp)
          clear hp hget
          go_wp2_with fail
          refine (l11Exists_any (nthPlace xs k) (f k) y _).mono ?_
          rintro e w2 ⟨rfl, e1⟩
          rw [HS.out.2]
          go_wp2
          go_roundw
          case rel => exact ⟨k + 1, l, a1, c1, by omega, by go_num, rfl, by rw [HS.out.1, ← HL.out], ho.ext e1, hx.trans e1⟩
          case measure => simp [intOf]; omega
        · have HS := Lib.hid (And.intro (pick_in (p := inP y) (f := PlaceV.code) hget hp) hp)
          clear hp hget
          go_wp2_with fail
          refine (l11Exists_any (nthPlace xs k) (f k) y _).mono ?_
          rintro e w2 ⟨rfl, e1⟩
          rw [HS.out.2]
          have b0 : _ = some (Value.string (nthPlace xs k).code) := (Below.cell e1 (p := ⟨b, o + k * 5, none⟩) hbl).trans hc0
          have hoE := ho.ext e1
          have hxE := hx.trans e1
          clear e1 ho hx
          go_wp2_with (first | (at_builtin; refine wpList_appG layS rfl _ _ 46 9 rfl Tryd.underlying46 (.string ⟨#[]⟩) 16 Tryd.info_string rfl (by decide) w.heap.size _ l.length _ l rfl (hoE.alloc _) _ 1 _ [(nthPlace xs k).code] rfl (RdG.new1 layS _ _ _ rfl _) (by omega) (hxE.alloc _).size ?_; intro a2 c2 w2 hown hgrow; have hb2 := hxE.appG hoE (Nat.le_refl _) hgrow; have HO := Lib.hid hown; clear hown))
          go_roundw
          case rel => exact ⟨k + 1, l ++ [(nthPlace xs k).code], a2, c2, by omega, by go_num, by simp, by rw [HS.out.1, ← HL.out], by simpa using HO.out, hb2⟩
          case measure => simp [intOf]; omega
      · obtain rfl : k = n := by omega
        go_wp2
        go_ret2
        rw [HZ.out.1, HZ.out.2, ← HL.out]
        refine ⟨_, rfl, a1, l.length, c1, rfl, by omega, ⟨ho, fun z hz => ?_⟩, hx⟩
        rw [HL.out] at hz
        obtain ⟨x, hx', _, rfl⟩ := pick_mem hz
        obtain ⟨j, hj, rfl⟩ := List.getElem_of_mem hx'
        have := (hr.2 j (by omega)).2.2.1
        rwa [nthPlace_eq hj] at this
  · have hb : (codeP xs true y == 0) = false := by simpa using hc
    have HZ := Lib.hid (show inL xs y = [] from if_neg hc)
    clear hc
    go_enter Tryd.func20, Tryd.ntmps20
    go_wp2_with fail
    refine (l11Year_any _ _ _ _ _ _ hr).mono ?_
    rintro e w1 ⟨rfl, e1⟩
    go_wp2
    go_ret2
    rw [HZ.out]
    exact ⟨_, rfl, _, _, _, rfl, by omega, ⟨OwnG.isNil _ _ _ _, by simp⟩, e1⟩

end Go.Proofs.YtopfnfaoomigmaaDoor

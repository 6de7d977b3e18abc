/-
  LanguagesOf on both sides.
-/
import Derived.Test.YteencdgaldhanaaGreatDoorNA2
import Derived.Test.YteencdgaldhanaaGreatDoorOR
import Derived.Test.YteencdgaldhanaaGreatDoorINS
import Derived.Test.YteencdgaldhanaaGreatDoorSI
namespace Go.Proofs.YteencdgaldhanaaGreatDoor
open Go.RowKit

def lgP (xs : List NameV) (k : Nat) : List ByteArray := pickL (fun _ => true) NameV.lang xs k
def lgL (xs : List NameV) : List ByteArray := if namesB xs = true then sortU (lgP xs xs.length) else []
def lgC (xs : List NameV) : Int := if namesB xs = true then 0 else 1
theorem lg_no {xs : List NameV} (h : namesB xs = false) : lgL xs = [] ∧ lgC xs = 1 := by rw [lgL, lgC, h]; exact ⟨rfl, rfl⟩
theorem lg_yes {xs : List NameV} (h : namesB xs = true) : lgL xs = sortU (lgP xs xs.length) ∧ lgC xs = 0 := by rw [lgL, lgC, if_pos h, if_pos h]; exact ⟨rfl, rfl⟩

set_option maxRecDepth 100000 in
set_option maxHeartbeats 2000000 in
theorem implLanguagesOf_any (a : Option Addr) (n c : Nat) (xs : List NameV) (w : World) (hr : RdName w a n xs) (hcap : n ≤ c) (hmax : MaxW w) (hn : n ≤ 1048576) :
    Calls Tryz.prog 29 #[.slice a n c] w (RetTC w (lgL xs) (lgC xs)) := by
  have hln := hr.len
  cases hT : namesB xs
  · have HZ := Lib.hid (And.intro hT (lg_no hT))
    clear hT
    go_enter Tryz.func29, Tryz.ntmps29
    go_wp2_with fail
    refine (implAreNames_any _ _ _ _ _ hr hcap hmax).mono ?_
    rintro e w1 ⟨rfl, e1⟩
    rw [HZ.out.1]
    go_wp2
    go_ret2
    rw [HZ.out.2.1, HZ.out.2.2]
    exact RetTC.nil e1
  · have HZ := Lib.hid (And.intro hT (lg_yes hT))
    clear hT
    go_enter Tryz.func29, Tryz.ntmps29
    go_wp2_with fail
    refine (implAreNames_any _ _ _ _ _ hr hcap hmax).mono ?_
    rintro e w1 ⟨rfl, e0⟩
    rw [HZ.out.1]
    go_wp2
    go_loopw [4, 12] (fun v i wr => ∃ (k : Nat) (l : List ByteArray) (a1 : Option Addr) (c1 : Nat), k ≤ n ∧ i = .int .i64 k ∧ v = .slice a1 l.length c1 ∧ l = lgP xs k ∧ OwnG layS 9 wr w.heap.size a1 l.length c1 l ∧ Ext w wr) (fun _ i _ => n - (intOf i).toNat)
    case atStart => exact ⟨0, [], _, _, Nat.zero_le _, rfl, rfl, (pick_zero _ _ _).symm, OwnG.isNil _ _ _ _, e0⟩
    case round =>
      obtain ⟨k, l, a1, c1, hk, rfl, rfl, hl, ho, hx⟩ := hrel
      have HL := Lib.hid hl
      have hll : l.length ≤ k := by rw [hl]; exact pick_len _ _ _ _
      clear hl
      by_cases hlt : k < n
      · obtain ⟨b, o, rfl, hbl, hA⟩ := (hr.ext hx).at (by omega)
        obtain ⟨hc0, hc1, hc2, hc3, hc4⟩ := hA k hlt
        have hki : (k : Int) < n := by omega
        have hxE := hx.alloc (.cells #[.string (nthName xs k).text, .string (nthName xs k).lang, .int .i64 (nthName xs k).status, .int .i64 (nthName xs k).from_, .int .i64 (nthName xs k).to_] 62)
        have hoE := ho.alloc (.cells #[.string (nthName xs k).text, .string (nthName xs k).lang, .int .i64 (nthName xs k).status, .int .i64 (nthName xs k).from_, .int .i64 (nthName xs k).to_] 62)
        have hget : xs[k]? = some (nthName xs k) := by rw [nthName_eq (by omega)]; exact List.getElem?_eq_getElem (by omega)
        have HS := Lib.hid (pick_in (p := fun _ => true) (f := NameV.lang) hget rfl)
        have hrd := RdG.new1 layS (wr.alloc (.cells #[.string (nthName xs k).text, .string (nthName xs k).lang, .int .i64 (nthName xs k).status, .int .i64 (nthName xs k).from_, .int .i64 (nthName xs k).to_] 62)) (nthName xs k).lang #[.string (nthName xs k).lang] rfl 9
        rw [World.size_alloc] at hrd
        clear hA hget ho hx
        go_wp2_with (first | (at_builtin; refine wpList_appG layS rfl _ _ 48 9 rfl Tryz.underlying48 (.string ⟨#[]⟩) 16 Tryz.info_string rfl (by decide) w.heap.size _ l.length _ l rfl (hoE.alloc _) _ 1 _ [(nthName xs k).lang] rfl hrd (by omega) (hxE.alloc _).size ?_; intro a2 c2 w2 hown hgrow; have hb2 := hxE.appG hoE (Nat.le_refl _) hgrow; have HO := Lib.hid hown; clear hown))
        go_roundw
        case rel => exact ⟨k + 1, l ++ [(nthName xs k).lang], a2, c2, by omega, by go_num, by simp, by rw [lgP, HS.out, ← lgP, ← HL.out], by simpa using HO.out, hb2⟩
        case measure => simp [intOf]; omega
      · obtain rfl : k = n := by omega
        have hos : OwnS wr w.heap.size a1 l.length c1 l := ⟨ho, by
          rw [HL.out]
          intro z hz
          obtain ⟨x, hx, _, rfl⟩ := pick_mem hz
          exact (hr.2 x hx).2⟩
        go_wp2_with fail
        refine (sorted_any _ _ _ _ _ _ hos (by omega)).mono ?_
        rintro e w2 ⟨m, rfl, hm, o2, b2⟩
        go_wp2
        go_ret2
        rw [HZ.out.2.1, HZ.out.2.2, hln, ← HL.out]
        exact ⟨_, rfl, _, _, _, rfl, by omega, o2, hx.below b2 (Nat.le_refl _)⟩

set_option maxRecDepth 100000 in
set_option maxHeartbeats 2000000 in
theorem specLanguagesOf_any (a : Option Addr) (n c : Nat) (xs : List NameV) (w : World) (hr : RdName w a n xs) (hn : n ≤ 1048576) :
    Calls Tryz.prog 30 #[.slice a n c] w (RetTC w (lgL xs) (lgC xs)) := by
  have hln := hr.len
  cases hT : namesB xs
  · have HZ := Lib.hid (And.intro hT (lg_no hT))
    clear hT
    go_enter Tryz.func30, Tryz.ntmps30
    go_wp2_with fail
    refine (specAreNames_any _ _ _ _ _ hr).mono ?_
    rintro e w1 ⟨rfl, e1⟩
    rw [HZ.out.1]
    go_wp2
    go_ret2
    rw [HZ.out.2.1, HZ.out.2.2]
    exact RetTC.nil e1
  · have HZ := Lib.hid (And.intro hT (lg_yes hT))
    clear hT
    go_enter Tryz.func30, Tryz.ntmps30
    go_wp2_with fail
    refine (specAreNames_any _ _ _ _ _ hr).mono ?_
    rintro e w1 ⟨rfl, e0⟩
    rw [HZ.out.1]
    go_wp2
    go_loopw [4, 5] (fun v i wr => ∃ (k m g c1 : Nat), k ≤ n ∧ m ≤ k ∧ i = .int .i64 k ∧ v = .slice (some ⟨g, 0, none⟩) m c1 ∧ OwnS wr w.heap.size (some ⟨g, 0, none⟩) m c1 (sortU (lgP xs k)) ∧ Ext w wr) (fun _ i _ => n - (intOf i).toNat)
    case atStart => exact ⟨0, 0, _, _, Nat.zero_le _, Nat.zero_le _, rfl, rfl, ⟨OwnG.lit layS 9 _ e0.size [] #[] rfl (by simp), by simp [lgP, pickL, sortU]⟩, e0.alloc _⟩
    case round =>
      obtain ⟨k, m, g, c1, hk, hmk, rfl, rfl, ho, hx⟩ := hrel
      by_cases hlt : k < n
      · obtain ⟨b, o, rfl, hbl, hA⟩ := (hr.ext hx).at (by omega)
        obtain ⟨hc0, hc1, hc2, hc3, hc4⟩ := hA k hlt
        have hki : (k : Int) < n := by omega
        have hok := hr.ok hlt
        have hget : xs[k]? = some (nthName xs k) := by rw [nthName_eq (by omega)]; exact List.getElem?_eq_getElem (by omega)
        have HS := Lib.hid (pick_in (p := fun _ => true) (f := NameV.lang) hget rfl)
        clear hA hget
        go_wp2_with fail
        refine (l08Insert_any g m c1 _ _ _ _ ho hx.size hok.2 (by omega)).mono ?_
        rintro e w2 ⟨g2, m2, c2, rfl, hm2, o2, e2⟩
        go_wp2
        go_roundw
        case rel => exact ⟨k + 1, m2, g2, c2, by omega, by omega, by go_num, rfl, by rw [lgP, HS.out, sortU_snoc]; exact o2, hx.trans e2⟩
        case measure => simp [intOf]; omega
      · obtain rfl : k = n := by omega
        go_wp2
        go_ret2
        rw [HZ.out.2.1, HZ.out.2.2, hln]
        exact ⟨_, rfl, _, _, _, rfl, by omega, ho, hx⟩

end Go.Proofs.YteencdgaldhanaaGreatDoor

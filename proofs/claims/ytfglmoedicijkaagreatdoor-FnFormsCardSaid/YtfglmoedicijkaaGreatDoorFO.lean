/-
  FormsOf and BasesOf on both sides.
-/
import Derived.Test.YtfglmoedicijkaaGreatDoorNT2
import Derived.Test.YtfglmoedicijkaaGreatDoorCH
import Derived.Test.YtfglmoedicijkaaGreatDoorOR
import Derived.Test.YtfglmoedicijkaaGreatDoorRL
import Derived.Test.YtfglmoedicijkaaGreatDoorINS
import Derived.Test.YtfglmoedicijkaaGreatDoorSI
namespace Go.Proofs.YtfglmoedicijkaaGreatDoor
open Go.RowKit

/-- A table of endings, and a word. -/
def tabB (xs : List EndingV) (s : ByteArray) : Bool := tableE xs && wordB s
def tabC (xs : List EndingV) (s : ByteArray) : Int := if tabB xs s = true then 0 else 1
theorem tab_bad {xs : List EndingV} {s : ByteArray} (h : tableE xs = false ∨ wordB s = false) : tabB xs s = false := by rw [tabB]; rcases h with h | h <;> simp [h]
theorem tab_good {xs : List EndingV} {s : ByteArray} (h : tableE xs = true) (h2 : wordB s = true) : tabB xs s = true := by rw [tabB, h, h2]; rfl
theorem tabC_no {xs : List EndingV} {s : ByteArray} (h : tabB xs s = false) : tabC xs s = 1 := by rw [tabC, h]; rfl
theorem tabC_yes {xs : List EndingV} {s : ByteArray} (h : tabB xs s = true) : tabC xs s = 0 := by rw [tabC, if_pos h]
theorem tabC_bad {xs : List EndingV} {s : ByteArray} (h : tableE xs = false ∨ wordB s = false) : tabC xs s = 1 := tabC_no (tab_bad h)
theorem tabC_good {xs : List EndingV} {s : ByteArray} (h : tableE xs = true) (h2 : wordB s = true) : tabC xs s = 0 := tabC_yes (tab_good h h2)

set_option maxRecDepth 100000 in
set_option maxHeartbeats 400000 in
theorem l08Code_any (a : Option Addr) (n c : Nat) (s : ByteArray) (xs : List EndingV) (w : World) (hr : RdEnding w a n xs) (hs : s.size ≤ 1073741824) :
    Calls Tryz.prog 60 #[.slice a n c, .string s] w fun e w' => e = .returned (.int .i64 (tabC xs s)) ∧ Ext w w' := by
  cases hT : tableE xs
  · have HZ := Lib.hid (And.intro hT (tabC_bad (s := s) (.inl hT)))
    clear hT
    go_enter Tryz.func60, Tryz.ntmps60
    go_wp2_with fail
    refine (specIsEndingTable_any _ _ _ _ _ hr).mono ?_
    rintro e w1 ⟨rfl, e1⟩
    rw [HZ.out.1]
    go_wp2
    go_ret
    exact ⟨ret_int HZ.out.2.symm, e1⟩
  cases hW : wordB s
  · have HZ := Lib.hid (And.intro hT (And.intro (tabC_bad (xs := xs) (.inr hW)) hW))
    clear hT hW
    go_enter Tryz.func60, Tryz.ntmps60
    go_wp2_with fail
    refine (specIsEndingTable_any _ _ _ _ _ hr).mono ?_
    rintro e w1 ⟨rfl, e1⟩
    rw [HZ.out.1]
    go_wp2_with fail
    refine (specIsWord_any _ _ (by omega)).mono ?_
    rintro e w2 ⟨rfl, rfl⟩
    rw [HZ.out.2.2]
    go_wp2
    go_ret
    exact ⟨ret_int HZ.out.2.1.symm, e1⟩
  · have HZ := Lib.hid (And.intro hT (And.intro (tabC_good hT hW) hW))
    clear hT hW
    go_enter Tryz.func60, Tryz.ntmps60
    go_wp2_with fail
    refine (specIsEndingTable_any _ _ _ _ _ hr).mono ?_
    rintro e w1 ⟨rfl, e1⟩
    rw [HZ.out.1]
    go_wp2_with fail
    refine (specIsWord_any _ _ (by omega)).mono ?_
    rintro e w2 ⟨rfl, rfl⟩
    rw [HZ.out.2.2]
    go_wp2
    go_ret
    exact ⟨ret_int HZ.out.2.1.symm, e1⟩

def formB (s : ByteArray) (x : EndingV) : Bool := chgB s x.old x.new
def formV (s : ByteArray) (x : EndingV) : ByteArray := chgV s x.old x.new
def formL (xs : List EndingV) (s : ByteArray) : List ByteArray := if tabB xs s = true then sortU (pickL (formB s) (formV s) xs xs.length) else []
theorem form_ok {xs : List EndingV} {s : ByteArray} {k : Nat} : ∀ z ∈ pickL (formB s) (formV s) xs k, z.size ≤ 1073741824 := fun z hz => by
  obtain ⟨x, _, hp, rfl⟩ := pick_mem hz
  have := (chg_V hp).2
  show (chgV s x.old x.new).size ≤ _
  omega

set_option maxRecDepth 100000 in
set_option maxHeartbeats 2000000 in
theorem implFormsOf_any (a : Option Addr) (n c : Nat) (s : ByteArray) (xs : List EndingV) (w : World) (hr : RdEnding w a n xs) (hcap : n ≤ c) (hs : s.size ≤ 1073741824) (hn : n ≤ 1048576) :
    Calls Tryz.prog 28 #[.slice a n c, .string s] w (RetTC w (formL xs s) (tabC xs s)) := by
  have hln := hr.len
  cases hT : tableE xs
  · have HZ := Lib.hid (And.intro hT (And.intro (show formL xs s = [] by rw [formL, tab_bad (.inl hT)]; rfl) (tabC_bad (s := s) (.inl hT))))
    clear hT
    go_enter Tryz.func28, Tryz.ntmps28
    go_wp2_with fail
    refine (implIsEndingTable_any _ _ _ _ _ hr hcap).mono ?_
    rintro e w1 ⟨rfl, e1⟩
    rw [HZ.out.1]
    go_wp2
    go_ret2
    rw [HZ.out.2.1, HZ.out.2.2]
    exact RetTC.nil e1
  cases hW : wordB s
  · have HZ := Lib.hid (And.intro hT (And.intro (show formL xs s = [] by rw [formL, tab_bad (.inr hW)]; rfl) (And.intro (tabC_bad (xs := xs) (.inr hW)) hW)))
    clear hT hW
    go_enter Tryz.func28, Tryz.ntmps28
    go_wp2_with fail
    refine (implIsEndingTable_any _ _ _ _ _ hr hcap).mono ?_
    rintro e w1 ⟨rfl, e1⟩
    rw [HZ.out.1]
    go_wp2_with fail
    refine (implIsWord_any _ _ (by omega)).mono ?_
    rintro e w2 ⟨rfl, e2⟩
    rw [HZ.out.2.2.2]
    go_wp2
    go_ret2
    rw [HZ.out.2.1, HZ.out.2.2.1]
    exact RetTC.nil (e1.trans e2)
  · have HZ := Lib.hid (And.intro hT (And.intro (show formL xs s = sortU (pickL (formB s) (formV s) xs xs.length) by rw [formL, if_pos (tab_good hT hW)]) (And.intro (tabC_good hT hW) hW)))
    clear hT hW
    go_enter Tryz.func28, Tryz.ntmps28
    go_wp2_with fail
    refine (implIsEndingTable_any _ _ _ _ _ hr hcap).mono ?_
    rintro e w1 ⟨rfl, e1⟩
    rw [HZ.out.1]
    go_wp2_with fail
    refine (implIsWord_any _ _ (by omega)).mono ?_
    rintro e w2 ⟨rfl, e2⟩
    rw [HZ.out.2.2.2]
    have e0 := e1.trans e2
    clear e1 e2
    go_wp2
    go_loopw [6, 21] (fun v i wr => ∃ (k : Nat) (l : List ByteArray) (a1 : Option Addr) (c1 : Nat), k ≤ n ∧ i = .int .i64 k ∧ v = .slice a1 l.length c1 ∧ l = pickL (formB s) (formV s) xs k ∧ OwnG layS 9 wr w.heap.size a1 l.length c1 l ∧ Ext w wr) (fun _ i _ => n - (intOf i).toNat)
    case atStart => exact ⟨0, [], _, _, Nat.zero_le _, rfl, rfl, (pick_zero _ _ _).symm, OwnG.isNil _ _ _ _, e0⟩
    case round =>
      obtain ⟨k, l, a1, c1, hk, rfl, rfl, hl, ho, hx⟩ := hrel
      have HL := Lib.hid hl
      have hll : l.length ≤ k := by rw [hl]; exact pick_len _ _ _ _
      clear hl
      by_cases hlt : k < n
      · obtain ⟨b, o, rfl, hbl, hA⟩ := (hr.ext hx).at (by omega)
        obtain ⟨hc0, hc1, hc2⟩ := hA k hlt
        have hki : (k : Int) < n := by omega
        have hok := hr.ok hlt
        have hxA := hx.alloc (.cells #[.string (nthEnding xs k).old, .string (nthEnding xs k).new, .int .i64 (nthEnding xs k).kase] 75)
        have hoA := ho.alloc (.cells #[.string (nthEnding xs k).old, .string (nthEnding xs k).new, .int .i64 (nthEnding xs k).kase] 75)
        have hget : xs[k]? = some (nthEnding xs k) := by rw [nthEnding_eq (by omega)]; exact List.getElem?_eq_getElem (by omega)
        clear hA
        cases hp : chgB s (nthEnding xs k).old (nthEnding xs k).new
        · have HS := Lib.hid (And.intro (pick_out (p := formB s) (f := formV s) hget hp) hp)
          clear hp hget
          go_wp2_with fail
          refine (exchanged_any _ _ _ _ hs hok.2).mono ?_
          rintro e w1 ⟨rfl, e1⟩
          rw [HS.out.2]
          go_wp2
          go_roundw
          case rel => exact ⟨k + 1, l, a1, c1, by omega, by go_num, rfl, by rw [HS.out.1, ← HL.out], hoA.ext e1, hxA.trans e1⟩
          case measure => simp [intOf]; omega
        · have HS := Lib.hid (And.intro (pick_in (p := formB s) (f := formV s) hget hp) hp)
          clear hp hget
          go_wp2_with fail
          refine (exchanged_any _ _ _ _ hs hok.2).mono ?_
          rintro e w1 ⟨rfl, e1⟩
          rw [HS.out.2]
          have hoE := hoA.ext e1
          have hxE := hxA.trans e1
          clear e1 hoA hxA ho hx
          go_wp2_with (first | (at_builtin; refine wpList_appG layS rfl _ _ 29 9 rfl Tryz.underlying29 (.string ⟨#[]⟩) 16 Tryz.info_string rfl (by decide) w.heap.size _ l.length _ l rfl (hoE.alloc _) _ 1 _ [chgV s (nthEnding xs k).old (nthEnding xs k).new] rfl (RdG.new1 layS _ _ _ rfl _) (by omega) (hxE.alloc _).size ?_; intro a2 c2 w2 hown hgrow; have hb2 := hxE.appG hoE (Nat.le_refl _) hgrow; have HO := Lib.hid hown; clear hown))
          go_roundw
          case rel => exact ⟨k + 1, l ++ [chgV s (nthEnding xs k).old (nthEnding xs k).new], a2, c2, by omega, by go_num, by simp, by rw [HS.out.1, ← HL.out]; rfl, by simpa using HO.out, hb2⟩
          case measure => simp [intOf]; omega
      · obtain rfl : k = n := by omega
        have hos : OwnS wr w.heap.size a1 l.length c1 l := ⟨ho, by rw [HL.out]; exact form_ok⟩
        go_wp2_with fail
        refine (sorted_any _ _ _ _ _ _ hos (by omega)).mono ?_
        rintro e w2 ⟨m, rfl, hm, o2, b2⟩
        go_wp2
        go_ret2
        rw [HZ.out.2.1, HZ.out.2.2.1, hln, ← HL.out]
        exact ⟨_, rfl, _, _, _, rfl, by omega, o2, hx.below b2 (Nat.le_refl _)⟩

set_option maxRecDepth 100000 in
set_option maxHeartbeats 2000000 in
theorem specFormsOf_any (a : Option Addr) (n c : Nat) (s : ByteArray) (xs : List EndingV) (w : World) (hr : RdEnding w a n xs) (hs : s.size ≤ 1073741824) (hn : n ≤ 1048576) :
    Calls Tryz.prog 29 #[.slice a n c, .string s] w (RetTC w (formL xs s) (tabC xs s)) := by
  have hln := hr.len
  cases hT : tabB xs s
  · have hc := tabC_no hT
    have HZ := Lib.hid (show formL xs s = [] by rw [formL, hT]; rfl)
    have HC := Lib.hid hc
    clear hT hc
    go_enter Tryz.func29, Tryz.ntmps29
    go_wp2_with fail
    refine (l08Code_any _ _ _ _ _ _ hr hs).mono ?_
    rintro e w1 ⟨rfl, e1⟩
    rw [HC.out]
    go_wp2
    go_ret2
    rw [HZ.out, HC.out]
    exact RetTC.nil e1
  · have HZ := Lib.hid (And.intro (show formL xs s = sortU (pickL (formB s) (formV s) xs xs.length) by rw [formL, if_pos hT]) (tabC_yes hT))
    clear hT
    go_enter Tryz.func29, Tryz.ntmps29
    go_wp2_with fail
    refine (l08Code_any _ _ _ _ _ _ hr hs).mono ?_
    rintro e w0 ⟨rfl, e0⟩
    rw [HZ.out.2]
    go_wp2
    go_loopw [7, 8] (fun v i wr => ∃ (k m g c1 : Nat), k ≤ n ∧ m ≤ k ∧ i = .int .i64 k ∧ v = .slice (some ⟨g, 0, none⟩) m c1 ∧ OwnS wr w.heap.size (some ⟨g, 0, none⟩) m c1 (sortU (pickL (formB s) (formV s) xs k)) ∧ Ext w wr) (fun _ i _ => n - (intOf i).toNat)
    case atStart => exact ⟨0, 0, _, _, Nat.zero_le _, Nat.zero_le _, rfl, rfl, ⟨OwnG.lit layS 9 _ e0.size [] #[] rfl (by simp), by simp [pickL, sortU]⟩, e0.alloc _⟩
    case round =>
      obtain ⟨k, m, g, c1, hk, hmk, rfl, rfl, ho, hx⟩ := hrel
      by_cases hlt : k < n
      · obtain ⟨b, o, rfl, hbl, hA⟩ := (hr.ext hx).at (by omega)
        obtain ⟨hc0, hc1, hc2⟩ := hA k hlt
        have hki : (k : Int) < n := by omega
        have hok := hr.ok hlt
        have hget : xs[k]? = some (nthEnding xs k) := by rw [nthEnding_eq (by omega)]; exact List.getElem?_eq_getElem (by omega)
        clear hA
        cases hp : chgB s (nthEnding xs k).old (nthEnding xs k).new
        · have HS := Lib.hid (And.intro (pick_out (p := formB s) (f := formV s) hget hp) hp)
          clear hp hget
          go_wp2
          go_quiet (first | (go_at_call 61; exact (l08Change_any _ _ _ _ hs hok.1 hok.2).mono fun _ _ h => ⟨h.1, ⟨_, h.2.symm⟩⟩))
          rw [HS.out.2]
          go_wp2
          go_roundw
          case rel => exact ⟨k + 1, m, g, c1, by omega, by omega, by go_num, rfl, by rw [HS.out.1]; exact ho.ext ((Ext.refl _).drewN _), hx.drewN _⟩
          case measure => simp [intOf]; omega
        · have HS := Lib.hid (And.intro (pick_in (p := formB s) (f := formV s) hget hp) (And.intro hp (chg_V hp)))
          clear hp hget
          go_wp2
          go_quiet (first | (go_at_call 61; exact (l08Change_any _ _ _ _ hs hok.1 hok.2).mono fun _ _ h => ⟨h.1, ⟨_, h.2.symm⟩⟩))
          rw [HS.out.2.1, HS.out.2.2.1]
          generalize hwd : wr.drewN _ = wd at *
          have hxd : Ext wr wd := by rw [← hwd]; exact (Ext.refl _).drewN _
          clear hwd
          go_wp2_with fail
          refine (l08Insert_any g m c1 _ _ _ _ (ho.ext hxd) (hx.trans hxd).size (by have := HS.out.2.2.2; omega) (by omega)).mono ?_
          rintro e w2 ⟨g2, m2, c2, rfl, hm2, o2, e2⟩
          go_wp2
          go_roundw
          case rel => exact ⟨k + 1, m2, g2, c2, by omega, by omega, by go_num, rfl, by rw [HS.out.1, sortU_snoc]; exact o2, (hx.trans hxd).trans e2⟩
          case measure => simp [intOf]; omega
      · obtain rfl : k = n := by omega
        go_wp2
        go_ret2
        rw [HZ.out.1, HZ.out.2, hln]
        exact ⟨_, rfl, _, _, _, rfl, by omega, ho, hx⟩

def baseB (s : ByteArray) (x : EndingV) : Bool := chgB s x.new x.old
def baseV (s : ByteArray) (x : EndingV) : ByteArray := chgV s x.new x.old
def baseL (xs : List EndingV) (s : ByteArray) : List ByteArray := if tabB xs s = true then sortU (pickL (baseB s) (baseV s) xs xs.length) else []
theorem base_ok {xs : List EndingV} {s : ByteArray} {k : Nat} : ∀ z ∈ pickL (baseB s) (baseV s) xs k, z.size ≤ 1073741824 := fun z hz => by
  obtain ⟨x, _, hp, rfl⟩ := pick_mem hz
  have := (chg_V hp).2
  show (chgV s x.new x.old).size ≤ _
  omega

set_option maxRecDepth 100000 in
set_option maxHeartbeats 2000000 in
theorem implBasesOf_any (a : Option Addr) (n c : Nat) (s : ByteArray) (xs : List EndingV) (w : World) (hr : RdEnding w a n xs) (hcap : n ≤ c) (hs : s.size ≤ 1073741824) (hn : n ≤ 1048576) :
    Calls Tryz.prog 26 #[.slice a n c, .string s] w (RetTC w (baseL xs s) (tabC xs s)) := by
  have hln := hr.len
  cases hT : tableE xs
  · have HZ := Lib.hid (And.intro hT (And.intro (show baseL xs s = [] by rw [baseL, tab_bad (.inl hT)]; rfl) (tabC_bad (s := s) (.inl hT))))
    clear hT
    go_enter Tryz.func26, Tryz.ntmps26
    go_wp2_with fail
    refine (implIsEndingTable_any _ _ _ _ _ hr hcap).mono ?_
    rintro e w1 ⟨rfl, e1⟩
    rw [HZ.out.1]
    go_wp2
    go_ret2
    rw [HZ.out.2.1, HZ.out.2.2]
    exact RetTC.nil e1
  cases hW : wordB s
  · have HZ := Lib.hid (And.intro hT (And.intro (show baseL xs s = [] by rw [baseL, tab_bad (.inr hW)]; rfl) (And.intro (tabC_bad (xs := xs) (.inr hW)) hW)))
    clear hT hW
    go_enter Tryz.func26, Tryz.ntmps26
    go_wp2_with fail
    refine (implIsEndingTable_any _ _ _ _ _ hr hcap).mono ?_
    rintro e w1 ⟨rfl, e1⟩
    rw [HZ.out.1]
    go_wp2_with fail
    refine (implIsWord_any _ _ (by omega)).mono ?_
    rintro e w2 ⟨rfl, e2⟩
    rw [HZ.out.2.2.2]
    go_wp2
    go_ret2
    rw [HZ.out.2.1, HZ.out.2.2.1]
    exact RetTC.nil (e1.trans e2)
  · have HZ := Lib.hid (And.intro hT (And.intro (show baseL xs s = sortU (pickL (baseB s) (baseV s) xs xs.length) by rw [baseL, if_pos (tab_good hT hW)]) (And.intro (tabC_good hT hW) hW)))
    clear hT hW
    go_enter Tryz.func26, Tryz.ntmps26
    go_wp2_with fail
    refine (implIsEndingTable_any _ _ _ _ _ hr hcap).mono ?_
    rintro e w1 ⟨rfl, e1⟩
    rw [HZ.out.1]
    go_wp2_with fail
    refine (implIsWord_any _ _ (by omega)).mono ?_
    rintro e w2 ⟨rfl, e2⟩
    rw [HZ.out.2.2.2]
    have e0 := e1.trans e2
    clear e1 e2
    go_wp2
    go_loopw [6, 21] (fun v i wr => ∃ (k : Nat) (l : List ByteArray) (a1 : Option Addr) (c1 : Nat), k ≤ n ∧ i = .int .i64 k ∧ v = .slice a1 l.length c1 ∧ l = pickL (baseB s) (baseV s) xs k ∧ OwnG layS 9 wr w.heap.size a1 l.length c1 l ∧ Ext w wr) (fun _ i _ => n - (intOf i).toNat)
    case atStart => exact ⟨0, [], _, _, Nat.zero_le _, rfl, rfl, (pick_zero _ _ _).symm, OwnG.isNil _ _ _ _, e0⟩
    case round =>
      obtain ⟨k, l, a1, c1, hk, rfl, rfl, hl, ho, hx⟩ := hrel
      have HL := Lib.hid hl
      have hll : l.length ≤ k := by rw [hl]; exact pick_len _ _ _ _
      clear hl
      by_cases hlt : k < n
      · obtain ⟨b, o, rfl, hbl, hA⟩ := (hr.ext hx).at (by omega)
        obtain ⟨hc0, hc1, hc2⟩ := hA k hlt
        have hki : (k : Int) < n := by omega
        have hok := hr.ok hlt
        have hxA := hx.alloc (.cells #[.string (nthEnding xs k).old, .string (nthEnding xs k).new, .int .i64 (nthEnding xs k).kase] 75)
        have hoA := ho.alloc (.cells #[.string (nthEnding xs k).old, .string (nthEnding xs k).new, .int .i64 (nthEnding xs k).kase] 75)
        have hget : xs[k]? = some (nthEnding xs k) := by rw [nthEnding_eq (by omega)]; exact List.getElem?_eq_getElem (by omega)
        clear hA
        cases hp : chgB s (nthEnding xs k).new (nthEnding xs k).old
        · have HS := Lib.hid (And.intro (pick_out (p := baseB s) (f := baseV s) hget hp) hp)
          clear hp hget
          go_wp2_with fail
          refine (exchanged_any _ _ _ _ hs hok.1).mono ?_
          rintro e w1 ⟨rfl, e1⟩
          rw [HS.out.2]
          go_wp2
          go_roundw
          case rel => exact ⟨k + 1, l, a1, c1, by omega, by go_num, rfl, by rw [HS.out.1, ← HL.out], hoA.ext e1, hxA.trans e1⟩
          case measure => simp [intOf]; omega
        · have HS := Lib.hid (And.intro (pick_in (p := baseB s) (f := baseV s) hget hp) hp)
          clear hp hget
          go_wp2_with fail
          refine (exchanged_any _ _ _ _ hs hok.1).mono ?_
          rintro e w1 ⟨rfl, e1⟩
          rw [HS.out.2]
          have hoE := hoA.ext e1
          have hxE := hxA.trans e1
          clear e1 hoA hxA ho hx
          go_wp2_with (first | (at_builtin; refine wpList_appG layS rfl _ _ 29 9 rfl Tryz.underlying29 (.string ⟨#[]⟩) 16 Tryz.info_string rfl (by decide) w.heap.size _ l.length _ l rfl (hoE.alloc _) _ 1 _ [chgV s (nthEnding xs k).new (nthEnding xs k).old] rfl (RdG.new1 layS _ _ _ rfl _) (by omega) (hxE.alloc _).size ?_; intro a2 c2 w2 hown hgrow; have hb2 := hxE.appG hoE (Nat.le_refl _) hgrow; have HO := Lib.hid hown; clear hown))
          go_roundw
          case rel => exact ⟨k + 1, l ++ [chgV s (nthEnding xs k).new (nthEnding xs k).old], a2, c2, by omega, by go_num, by simp, by rw [HS.out.1, ← HL.out]; rfl, by simpa using HO.out, hb2⟩
          case measure => simp [intOf]; omega
      · obtain rfl : k = n := by omega
        have hos : OwnS wr w.heap.size a1 l.length c1 l := ⟨ho, by rw [HL.out]; exact base_ok⟩
        go_wp2_with fail
        refine (sorted_any _ _ _ _ _ _ hos (by omega)).mono ?_
        rintro e w2 ⟨m, rfl, hm, o2, b2⟩
        go_wp2
        go_ret2
        rw [HZ.out.2.1, HZ.out.2.2.1, hln, ← HL.out]
        exact ⟨_, rfl, _, _, _, rfl, by omega, o2, hx.below b2 (Nat.le_refl _)⟩

set_option maxRecDepth 100000 in
set_option maxHeartbeats 2000000 in
theorem specBasesOf_any (a : Option Addr) (n c : Nat) (s : ByteArray) (xs : List EndingV) (w : World) (hr : RdEnding w a n xs) (hs : s.size ≤ 1073741824) (hn : n ≤ 1048576) :
    Calls Tryz.prog 27 #[.slice a n c, .string s] w (RetTC w (baseL xs s) (tabC xs s)) := by
  have hln := hr.len
  cases hT : tabB xs s
  · have hc := tabC_no hT
    have HZ := Lib.hid (show baseL xs s = [] by rw [baseL, hT]; rfl)
    have HC := Lib.hid hc
    clear hT hc
    go_enter Tryz.func27, Tryz.ntmps27
    go_wp2_with fail
    refine (l08Code_any _ _ _ _ _ _ hr hs).mono ?_
    rintro e w1 ⟨rfl, e1⟩
    rw [HC.out]
    go_wp2
    go_ret2
    rw [HZ.out, HC.out]
    exact RetTC.nil e1
  · have HZ := Lib.hid (And.intro (show baseL xs s = sortU (pickL (baseB s) (baseV s) xs xs.length) by rw [baseL, if_pos hT]) (tabC_yes hT))
    clear hT
    go_enter Tryz.func27, Tryz.ntmps27
    go_wp2_with fail
    refine (l08Code_any _ _ _ _ _ _ hr hs).mono ?_
    rintro e w0 ⟨rfl, e0⟩
    rw [HZ.out.2]
    go_wp2
    go_loopw [7, 8] (fun v i wr => ∃ (k m g c1 : Nat), k ≤ n ∧ m ≤ k ∧ i = .int .i64 k ∧ v = .slice (some ⟨g, 0, none⟩) m c1 ∧ OwnS wr w.heap.size (some ⟨g, 0, none⟩) m c1 (sortU (pickL (baseB s) (baseV s) xs k)) ∧ Ext w wr) (fun _ i _ => n - (intOf i).toNat)
    case atStart => exact ⟨0, 0, _, _, Nat.zero_le _, Nat.zero_le _, rfl, rfl, ⟨OwnG.lit layS 9 _ e0.size [] #[] rfl (by simp), by simp [pickL, sortU]⟩, e0.alloc _⟩
    case round =>
      obtain ⟨k, m, g, c1, hk, hmk, rfl, rfl, ho, hx⟩ := hrel
      by_cases hlt : k < n
      · obtain ⟨b, o, rfl, hbl, hA⟩ := (hr.ext hx).at (by omega)
        obtain ⟨hc0, hc1, hc2⟩ := hA k hlt
        have hki : (k : Int) < n := by omega
        have hok := hr.ok hlt
        have hget : xs[k]? = some (nthEnding xs k) := by rw [nthEnding_eq (by omega)]; exact List.getElem?_eq_getElem (by omega)
        clear hA
        cases hp : chgB s (nthEnding xs k).new (nthEnding xs k).old
        · have HS := Lib.hid (And.intro (pick_out (p := baseB s) (f := baseV s) hget hp) hp)
          clear hp hget
          go_wp2
          go_quiet (first | (go_at_call 61; exact (l08Change_any _ _ _ _ hs hok.2 hok.1).mono fun _ _ h => ⟨h.1, ⟨_, h.2.symm⟩⟩))
          rw [HS.out.2]
          go_wp2
          go_roundw
          case rel => exact ⟨k + 1, m, g, c1, by omega, by omega, by go_num, rfl, by rw [HS.out.1]; exact ho.ext ((Ext.refl _).drewN _), hx.drewN _⟩
          case measure => simp [intOf]; omega
        · have HS := Lib.hid (And.intro (pick_in (p := baseB s) (f := baseV s) hget hp) (And.intro hp (chg_V hp)))
          clear hp hget
          go_wp2
          go_quiet (first | (go_at_call 61; exact (l08Change_any _ _ _ _ hs hok.2 hok.1).mono fun _ _ h => ⟨h.1, ⟨_, h.2.symm⟩⟩))
          rw [HS.out.2.1, HS.out.2.2.1]
          generalize hwd : wr.drewN _ = wd at *
          have hxd : Ext wr wd := by rw [← hwd]; exact (Ext.refl _).drewN _
          clear hwd
          go_wp2_with fail
          refine (l08Insert_any g m c1 _ _ _ _ (ho.ext hxd) (hx.trans hxd).size (by have := HS.out.2.2.2; omega) (by omega)).mono ?_
          rintro e w2 ⟨g2, m2, c2, rfl, hm2, o2, e2⟩
          go_wp2
          go_roundw
          case rel => exact ⟨k + 1, m2, g2, c2, by omega, by omega, by go_num, rfl, by rw [HS.out.1, sortU_snoc]; exact o2, (hx.trans hxd).trans e2⟩
          case measure => simp [intOf]; omega
      · obtain rfl : k = n := by omega
        go_wp2
        go_ret2
        rw [HZ.out.1, HZ.out.2, hln]
        exact ⟨_, rfl, _, _, _, rfl, by omega, ho, hx⟩

end Go.Proofs.YtfglmoedicijkaaGreatDoor

/-
  RootsIn on both sides.
-/
import Derived.Test.YtkljdmdlmhdpiaaDoorLM
import Derived.Test.YtkljdmdlmhdpiaaDoorINS
import Derived.Test.YtkljdmdlmhdpiaaDoorSI
namespace Go.Proofs.YtkljdmdlmhdpiaaDoor
open Go.RowKit

def rootP (xs : List LinkV) (y : Int) (x : LinkV) : Bool := inB y x.from_ x.to_ && !parB xs x.parent y
def rootL (xs : List LinkV) (y : Int) (k : Nat) : List ByteArray := ((xs.take k).filter (rootP xs y)).map (·.parent)
theorem rootL_step {xs : List LinkV} {y : Int} {k : Nat} (hk : k < xs.length) : rootL xs y (k + 1) = rootL xs y k ++ (if rootP xs y (nthLink xs k) = true then [(nthLink xs k).parent] else []) := by
  rw [rootL, rootL, List.take_succ_eq_append_getElem hk, List.filter_append, List.map_append, ← nthLink_eq hk]
  by_cases h : rootP xs y (nthLink xs k) = true <;> simp [h]
theorem rootL_len (xs : List LinkV) (y : Int) (k : Nat) : (rootL xs y k).length ≤ k := by
  rw [rootL, List.length_map]
  exact Nat.le_trans (List.length_filter_le _ _) (by simp; omega)
theorem rootL_ok {xs : List LinkV} (y : Int) (k : Nat) (h : ∀ x ∈ xs, okLink x) : ∀ s ∈ rootL xs y k, s.size ≤ 1073741824 := fun s hs => by
  rw [rootL, List.mem_map] at hs
  obtain ⟨x, hx, rfl⟩ := hs
  exact (h x (List.mem_of_mem_take (List.mem_filter.1 hx).1)).2
theorem root_out {xs : List LinkV} {y : Int} {k : Nat} (hk : k < xs.length) (h : inB y (nthLink xs k).from_ (nthLink xs k).to_ = false ∨ parB xs (nthLink xs k).parent y = true) : rootL xs y (k + 1) = rootL xs y k := by
  rw [rootL_step hk, if_neg, List.append_nil]
  rw [rootP]
  rcases h with h | h <;> simp [h]
theorem root_in {xs : List LinkV} {y : Int} {k : Nat} (hk : k < xs.length) (h1 : inB y (nthLink xs k).from_ (nthLink xs k).to_ = true) (h2 : parB xs (nthLink xs k).parent y = false) : rootL xs y (k + 1) = rootL xs y k ++ [(nthLink xs k).parent] := by
  rw [rootL_step hk, if_pos]
  rw [rootP, h1, h2]; rfl
def rootsV (xs : List LinkV) (y : Int) : List ByteArray := if codeK xs true y = 0 then sortU (rootL xs y xs.length) else []

set_option maxRecDepth 100000 in
set_option maxHeartbeats 2000000 in
theorem implRootsIn_any (a : Option Addr) (n c : Nat) (y : Int) (xs : List LinkV) (w : World) (hr : RdLink w a n xs) (hcap : n ≤ c) (hn : n ≤ 1048576) :
    Calls Tryd.prog 15 #[.slice a n c, .int .i64 y] w (RetTC w (rootsV xs y) (codeK xs true y)) := by
  have hln := hr.len
  by_cases hc : codeK xs true y = 0
  · have hL := (codeK_zero hc).1
    have HZ := Lib.hid (And.intro hc (show rootsV xs y = sortU (rootL xs y xs.length) by rw [rootsV, if_pos hc]))
    clear hc hL
    go_enter Tryd.func15, Tryd.ntmps15
    go_wp2_with fail
    refine (linkCode_any _ _ _ _ none 0 0 [] _ _ hr hcap ⟨RdG.nil _ _ _, by simp⟩ (by omega)).mono ?_
    rintro e w0 ⟨rfl, e0⟩
    rw [show wordsB [] = true from rfl, HZ.out.1]
    go_wp2
    go_loopw [7, 20] (fun v i wr => ∃ (k : Nat) (l : List ByteArray) (a1 : Option Addr) (c1 : Nat), k ≤ n ∧ i = .int .i64 k ∧ v = .slice a1 l.length c1 ∧ l = rootL xs y k ∧ OwnG layS 9 wr w.heap.size a1 l.length c1 l ∧ Ext w wr) (fun _ i _ => n - (intOf i).toNat)
    case atStart => exact ⟨0, [], _, _, Nat.zero_le _, rfl, rfl, by simp [rootL], OwnG.isNil _ _ _ _, e0⟩
    case round =>
      obtain ⟨k, l, a1, c1, hk, rfl, rfl, hl, ho, hx⟩ := hrel
      have HL := Lib.hid hl
      have hll : l.length ≤ k := by rw [hl]; exact rootL_len _ _ _
      clear hl
      by_cases hlt : k < n
      · obtain ⟨b, o, rfl, hbl, hA⟩ := (hr.ext hx).at (by omega)
        obtain ⟨hc0, hc1, hc2, hc3⟩ := hA k hlt
        have hki : (k : Int) < n := by omega
        have hxA := hx.alloc (.cells #[.string (nthLink xs k).child, .string (nthLink xs k).parent, .int .i64 (nthLink xs k).from_, .int .i64 (nthLink xs k).to_] 35)
        have hoA := ho.alloc (.cells #[.string (nthLink xs k).child, .string (nthLink xs k).parent, .int .i64 (nthLink xs k).from_, .int .i64 (nthLink xs k).to_] 35)
        clear hA
        cases hp : parB xs (nthLink xs k).parent y
        · cases hb : inB y (nthLink xs k).from_ (nthLink xs k).to_
          · have HS := Lib.hid (And.intro (root_out (xs := xs) (y := y) (k := k) (by omega) (.inl hb)) (And.intro hp hb))
            clear hp hb
            go_wp2_with fail
            refine (parentIn_any _ _ _ _ _ _ _ (hr.ext hxA)).mono ?_
            rintro e w1 ⟨rfl, e1⟩
            rw [HS.out.2.1]
            have b0 : _ = some (Value.string (nthLink xs k).child) := box_keptG e1 0
            have b1 : _ = some (Value.string (nthLink xs k).parent) := box_keptG e1 1
            have b2 : _ = some (Value.int .i64 (nthLink xs k).from_) := box_keptG e1 2
            have b3 : _ = some (Value.int .i64 (nthLink xs k).to_) := box_keptG e1 3
            go_wp2_with fail
            refine (has_any ⟨(nthLink xs k).from_, (nthLink xs k).to_⟩ y _).mono ?_
            rintro e w2 ⟨rfl, e2⟩
            rw [HS.out.2.2]
            go_wp2
            go_roundw
            case rel => exact ⟨k + 1, l, a1, c1, by omega, by go_num, rfl, by rw [HS.out.1, ← HL.out], (hoA.ext e1).ext e2, (hxA.trans e1).trans e2⟩
            case measure => simp [intOf]; omega
          · have HS := Lib.hid (And.intro (root_in (xs := xs) (y := y) (k := k) (by omega) hb hp) (And.intro hp hb))
            clear hp hb
            go_wp2_with fail
            refine (parentIn_any _ _ _ _ _ _ _ (hr.ext hxA)).mono ?_
            rintro e w1 ⟨rfl, e1⟩
            rw [HS.out.2.1]
            have b0 : _ = some (Value.string (nthLink xs k).child) := box_keptG e1 0
            have b1 : _ = some (Value.string (nthLink xs k).parent) := box_keptG e1 1
            have b2 : _ = some (Value.int .i64 (nthLink xs k).from_) := box_keptG e1 2
            have b3 : _ = some (Value.int .i64 (nthLink xs k).to_) := box_keptG e1 3
            go_wp2_with fail
            refine (has_any ⟨(nthLink xs k).from_, (nthLink xs k).to_⟩ y _).mono ?_
            rintro e w2 ⟨rfl, e2⟩
            rw [HS.out.2.2]
            have b0x : _ = some (Value.string (nthLink xs k).child) := box_keptG (e1.trans e2) 0
            have b1x : _ = some (Value.string (nthLink xs k).parent) := box_keptG (e1.trans e2) 1
            have b2x : _ = some (Value.int .i64 (nthLink xs k).from_) := box_keptG (e1.trans e2) 2
            have b3x : _ = some (Value.int .i64 (nthLink xs k).to_) := box_keptG (e1.trans e2) 3
            have hoE := (hoA.ext e1).ext e2
            have hxE := (hxA.trans e1).trans e2
            clear e1 e2 hoA hxA ho hx
            go_wp2_with (first | (at_builtin; refine wpList_appG layS rfl _ _ 40 9 rfl Tryd.underlying40 (.string ⟨#[]⟩) 16 Tryd.info_string rfl (by decide) w.heap.size _ l.length _ l rfl (hoE.alloc _) _ 1 _ [(nthLink xs k).parent] rfl (RdG.new1 layS _ _ _ rfl _) (by omega) (hxE.alloc _).size ?_; intro a2 c2 w2 hown hgrow; have hb2 := hxE.appG hoE (Nat.le_refl _) hgrow; have HO := Lib.hid hown; clear hown))
            go_roundw
            case rel => exact ⟨k + 1, l ++ [(nthLink xs k).parent], a2, c2, by omega, by go_num, by simp, by rw [HS.out.1, ← HL.out], by simpa using HO.out, hb2⟩
            case measure => simp [intOf]; omega
        · have HS := Lib.hid (And.intro (root_out (xs := xs) (y := y) (k := k) (by omega) (.inr hp)) hp)
          clear hp
          go_wp2_with fail
          refine (parentIn_any _ _ _ _ _ _ _ (hr.ext hxA)).mono ?_
          rintro e w1 ⟨rfl, e1⟩
          rw [HS.out.2]
          go_wp2
          go_roundw
          case rel => exact ⟨k + 1, l, a1, c1, by omega, by go_num, rfl, by rw [HS.out.1, ← HL.out], hoA.ext e1, hxA.trans e1⟩
          case measure => simp [intOf]; omega
      · obtain rfl : k = n := by omega
        have hos : OwnS wr w.heap.size a1 l.length c1 l := ⟨ho, by rw [HL.out]; exact rootL_ok y k hr.2⟩
        go_wp2_with fail
        refine (sorted_any _ _ _ _ _ _ hos (by omega)).mono ?_
        rintro e w2 ⟨m, rfl, hm, o2, b2⟩
        go_wp2
        go_ret2
        rw [HZ.out.1, HZ.out.2, hln, ← HL.out]
        exact ⟨_, rfl, _, _, _, rfl, by omega, o2, hx.below b2 (Nat.le_refl _)⟩
  · have hb : (codeK xs true y == 0) = false := by simpa using hc
    have HZ := Lib.hid (show rootsV xs y = [] by rw [rootsV, if_neg hc])
    clear hc
    go_enter Tryd.func15, Tryd.ntmps15
    go_wp2_with fail
    refine (linkCode_any _ _ _ _ none 0 0 [] _ _ hr hcap ⟨RdG.nil _ _ _, by simp⟩ (by omega)).mono ?_
    rintro e w0 ⟨rfl, e0⟩
    rw [show wordsB [] = true from rfl]
    go_wp2
    go_ret2
    rw [HZ.out]
    exact RetTC.nil e0

set_option maxRecDepth 100000 in
set_option maxHeartbeats 2000000 in
theorem specRootsIn_any (a : Option Addr) (n c : Nat) (y : Int) (xs : List LinkV) (w : World) (hr : RdLink w a n xs) (hn : n ≤ 1048576) :
    Calls Tryd.prog 14 #[.slice a n c, .int .i64 y] w (RetTC w (rootsV xs y) (codeK xs true y)) := by
  have hln := hr.len
  have hwa : wordB ⟨#[97]⟩ = true := by decide +kernel
  by_cases hc : codeK xs true y = 0
  · have hL := (codeK_zero hc).1
    have HZ := Lib.hid (And.intro hc (And.intro (show rootsV xs y = sortU (rootL xs y xs.length) by rw [rootsV, if_pos hc]) (And.intro hwa (links_par hL))))
    clear hc hL hwa
    go_enter Tryd.func14, Tryd.ntmps14
    go_wp2_with fail
    refine (l12Code_any _ _ _ ⟨#[97]⟩ _ _ _ hr (by decide) (by omega)).mono ?_
    rintro e w0 ⟨rfl, e0⟩
    rw [HZ.out.2.2.1, HZ.out.1]
    go_wp2
    go_loopw [7, 8] (fun v i wr => ∃ (k m g c1 : Nat), k ≤ n ∧ m ≤ k ∧ i = .int .i64 k ∧ v = .slice (some ⟨g, 0, none⟩) m c1 ∧ OwnS wr w.heap.size (some ⟨g, 0, none⟩) m c1 (sortU (rootL xs y k)) ∧ Ext w wr) (fun _ i _ => n - (intOf i).toNat)
    case atStart => exact ⟨0, 0, _, _, Nat.zero_le _, Nat.zero_le _, rfl, rfl, ⟨OwnG.lit layS 9 _ e0.size [] #[] rfl (by simp), by simp [rootL, sortU]⟩, e0.alloc _⟩
    case round =>
      obtain ⟨k, m, g, c1, hk, hmk, rfl, rfl, ho, hx⟩ := hrel
      by_cases hlt : k < n
      · obtain ⟨b, o, rfl, hbl, hA⟩ := (hr.ext hx).at (by omega)
        obtain ⟨hc0, hc1, hc2, hc3⟩ := hA k hlt
        have hki : (k : Int) < n := by omega
        have hok := hr.ok hlt
        have hxA := hx.alloc (.cells #[.string (nthLink xs k).child, .string (nthLink xs k).parent, .int .i64 (nthLink xs k).from_, .int .i64 (nthLink xs k).to_] 35)
        have hoA := ho.ext ((Ext.refl _).alloc (.cells #[.string (nthLink xs k).child, .string (nthLink xs k).parent, .int .i64 (nthLink xs k).from_, .int .i64 (nthLink xs k).to_] 35))
        clear hA
        cases hb : inB y (nthLink xs k).from_ (nthLink xs k).to_
        · have HS := Lib.hid (And.intro (root_out (xs := xs) (y := y) (k := k) (by omega) (.inl hb)) hb)
          have HO := Lib.hid ho
          clear hb ho
          go_wp2_with fail
          refine (l01In_any _ _ _ _).mono ?_
          rintro e w1 ⟨rfl, rfl⟩
          rw [HS.out.2]
          go_wp2
          go_roundw
          case rel => exact ⟨k + 1, m, g, c1, by omega, by omega, by go_num, rfl, by rw [HS.out.1]; exact hoA, hxA⟩
          case measure => simp [intOf]; omega
        · cases hp : parB xs (nthLink xs k).parent y
          · have hte : parT xs (nthLink xs k).parent y = ⟨#[]⟩ := parT_eq hp
            have HS := Lib.hid (And.intro (root_in (xs := xs) (y := y) (k := k) (by omega) hb hp) (And.intro hb hte))
            clear hb hp hte
            go_wp2_with fail
            refine (l01In_any _ _ _ _).mono ?_
            rintro e w1 ⟨rfl, rfl⟩
            rw [HS.out.2.1]
            go_wp2_with fail
            refine (l12Parent_any _ _ _ _ _ _ _ (hr.ext hxA)).mono ?_
            rintro e w1 ⟨rfl, e1s⟩
            have e1 := e1s.ext
            rw [HS.out.2.2]
            have b0 : _ = some (Value.string (nthLink xs k).child) := box_keptG e1 0
            have b1 : _ = some (Value.string (nthLink xs k).parent) := box_keptG e1 1
            have b2 : _ = some (Value.int .i64 (nthLink xs k).from_) := box_keptG e1 2
            have b3 : _ = some (Value.int .i64 (nthLink xs k).to_) := box_keptG e1 3
            go_wp2_with fail
            refine (l08Insert_any g m c1 _ _ _ _ (hoA.ext e1) (hxA.trans e1).size hok.2 (by omega)).mono ?_
            rintro e w2 ⟨g2, m2, c2, rfl, hm2, o2, e2⟩
            go_wp2
            go_roundw
            case rel => exact ⟨k + 1, m2, g2, c2, by omega, by omega, by go_num, rfl, by rw [HS.out.1, sortU_snoc]; exact o2, (hxA.trans e1).trans e2⟩
            case measure => simp [intOf]; omega
          · have hne := isEmptyS_ne (parT_ne HZ.out.2.2.2 hp)
            have HS := Lib.hid (And.intro (root_out (xs := xs) (y := y) (k := k) (by omega) (.inr hp)) hb)
            clear hb hp
            go_wp2_with fail
            refine (l01In_any _ _ _ _).mono ?_
            rintro e w1 ⟨rfl, rfl⟩
            rw [HS.out.2]
            go_wp2_with fail
            refine (l12Parent_any _ _ _ _ _ _ _ (hr.ext hxA)).mono ?_
            rintro e w1 ⟨rfl, e1s⟩
            have e1 := e1s.ext
            go_wp2
            go_roundw
            case rel => exact ⟨k + 1, m, g, c1, by omega, by omega, by go_num, rfl, by rw [HS.out.1]; exact hoA.ext e1, hxA.trans e1⟩
            case measure => simp [intOf]; omega
      · obtain rfl : k = n := by omega
        go_wp2
        go_ret2
        rw [HZ.out.1, HZ.out.2.1, hln]
        exact ⟨_, rfl, _, _, _, rfl, by omega, ho, hx⟩
  · have hb : (codeK xs true y == 0) = false := by simpa using hc
    have HZ := Lib.hid (And.intro (show rootsV xs y = [] by rw [rootsV, if_neg hc]) hwa)
    clear hc hwa
    go_enter Tryd.func14, Tryd.ntmps14
    go_wp2_with fail
    refine (l12Code_any _ _ _ ⟨#[97]⟩ _ _ _ hr (by decide) (by omega)).mono ?_
    rintro e w0 ⟨rfl, e0⟩
    rw [HZ.out.2]
    go_wp2
    go_ret2
    rw [HZ.out.1]
    exact RetTC.nil e0

end Go.Proofs.YtkljdmdlmhdpiaaDoor

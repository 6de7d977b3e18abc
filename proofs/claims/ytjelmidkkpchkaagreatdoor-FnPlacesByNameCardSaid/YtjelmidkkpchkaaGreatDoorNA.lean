/-
  AreNames of the program.
-/
import Derived.Test.YtjelmidkkpchkaaGreatDoorNF
namespace Go.Proofs.YtjelmidkkpchkaaGreatDoor
open Go.RowKit

/-- Does an official name clash with y? -/
def clashB (y x : NameV) : Bool := offB x y.lang && meetB ⟨x.from_, x.to_⟩ ⟨y.from_, y.to_⟩
def HoldsName (w : World) (b : Nat) (y : NameV) : Prop := b < w.heap.size ∧ w.cell? ⟨b, 0, none⟩ = some (.string y.text) ∧ w.cell? ⟨b, 1, none⟩ = some (.string y.lang) ∧ w.cell? ⟨b, 2, none⟩ = some (.int .i64 y.status) ∧ w.cell? ⟨b, 3, none⟩ = some (.int .i64 y.from_) ∧ w.cell? ⟨b, 4, none⟩ = some (.int .i64 y.to_)
theorem HoldsName.ext {w w' : World} {b : Nat} {y : NameV} (h : HoldsName w b y) (x : Ext w w') : HoldsName w' b y :=
  ⟨Nat.lt_of_lt_of_le h.1 x.size, (Below.cell x (p := ⟨b, 0, none⟩) h.1).trans h.2.1, (Below.cell x (p := ⟨b, 1, none⟩) h.1).trans h.2.2.1, (Below.cell x (p := ⟨b, 2, none⟩) h.1).trans h.2.2.2.1, (Below.cell x (p := ⟨b, 3, none⟩) h.1).trans h.2.2.2.2.1, (Below.cell x (p := ⟨b, 4, none⟩) h.1).trans h.2.2.2.2.2⟩
theorem HoldsName.box (w : World) (y : NameV) (t : TypeId) {w' : World} (x : Ext (w.alloc (.cells #[.string y.text, .string y.lang, .int .i64 y.status, .int .i64 y.from_, .int .i64 y.to_] t)) w') : HoldsName w' w.heap.size y :=
  ⟨by have := x.size; simp at this; omega, box_keptG x 0, box_keptG x 1, box_keptG x 2, box_keptG x 3, box_keptG x 4⟩

set_option maxRecDepth 100000 in
set_option maxHeartbeats 400000 in
theorem clash_any (x y : NameV) (b : Nat) (w : World) (hy : HoldsName w b y) :
    Calls Tryz.prog 195 #[valName x, .pointer (some ⟨b, 0, none⟩)] w fun e w' => e = .returned (.bool (clashB y x)) ∧ Ext w w' := by
  obtain ⟨x0, x1, x2, x3, x4⟩ := x
  have hy2 := hy.ext ((Ext.refl w).alloc (.cells #[.string x0, .string x1, .int .i64 x2, .int .i64 x3, .int .i64 x4] 69))
  obtain ⟨hb, c0, c1, c2, c3, c4⟩ := hy2
  simp only [valName]
  cases ho : offB ⟨x0, x1, x2, x3, x4⟩ y.lang
  · have hr : clashB y ⟨x0, x1, x2, x3, x4⟩ = false := by rw [clashB, ho]; rfl
    have HO := Lib.hid ho
    have HR := Lib.hid hr
    clear ho hr
    go_enter Tryz.func195, Tryz.ntmps195
    go_wp2_with fail
    refine (isOfficial_any ⟨x0, x1, x2, x3, x4⟩ y.lang _).mono ?_
    rintro e w1 ⟨rfl, e1⟩
    rw [HO.out]
    go_wp2
    go_ret
    exact ⟨by rw [HR.out]; rfl, ((Ext.refl _).alloc _).trans e1⟩
  · have hr : clashB y ⟨x0, x1, x2, x3, x4⟩ = meetB ⟨x3, x4⟩ ⟨y.from_, y.to_⟩ := by rw [clashB, ho]; rfl
    have HO := Lib.hid ho
    have HR := Lib.hid hr
    clear ho hr
    go_enter Tryz.func195, Tryz.ntmps195
    go_wp2_with fail
    refine (isOfficial_any ⟨x0, x1, x2, x3, x4⟩ y.lang _).mono ?_
    rintro e w1 ⟨rfl, e1⟩
    rw [HO.out]
    have b3 : _ = some (Value.int .i64 x3) := box_keptG e1 3
    have b4 : _ = some (Value.int .i64 x4) := box_keptG e1 4
    obtain ⟨_, _, _, _, d3, d4⟩ := (hy.ext ((Ext.refl w).alloc (.cells #[.string x0, .string x1, .int .i64 x2, .int .i64 x3, .int .i64 x4] 69))).ext e1
    go_wp2_with fail
    refine (meets_any ⟨x3, x4⟩ ⟨y.from_, y.to_⟩ _).mono ?_
    rintro e w2 ⟨rfl, e2⟩
    go_wp2
    go_ret
    exact ⟨by rw [HR.out]; rfl, (((Ext.refl _).alloc _).trans e1).trans e2⟩

set_option maxRecDepth 100000 in
set_option maxHeartbeats 400000 in
theorem idxClash_any (a : Option Addr) (n c : Nat) (xs : List NameV) (p : NameV → Bool) (q0 : Addr) (w : World) (hr : RdName w a n xs) (hk : ∀ w1, Ext w w1 → ∀ k, k < n → Calls Tryz.prog 195 #[valName (nthName xs k), .pointer (some q0)] w1 fun e w2 => e = .returned (.bool (p (nthName xs k))) ∧ Ext w1 w2) :
    Calls Tryz.prog 139 #[.slice a n c, .func (.func 195) #[] #[.pointer (some q0)]] w fun e w' => e = .returned (.int .i64 (idxP p xs)) ∧ Ext w w' := by
  have hm := hr.le
  have hln := hr.len
  have HK := Lib.hid hk
  clear hk
  go_enter Tryz.func139, Tryz.ntmps139
  go_wp2
  go_loopw [8] (fun i wr => ∃ k : Nat, k ≤ n ∧ i = .int .i64 k ∧ (∀ j (hj : j < xs.length), j < k → p xs[j] = false) ∧ Ext w wr) (fun i _ => n - (intOf i).toNat)
  case atStart => exact ⟨0, Nat.zero_le _, rfl, fun j _ h => by omega, Ext.refl _⟩
  case round =>
    obtain ⟨k, hk, rfl, hall, hx⟩ := hrel
    have HA := Lib.hid hall
    clear hall
    by_cases hlt : k < n
    · obtain ⟨b, o, rfl, hbl, hA⟩ := (hr.ext hx).at (by omega)
      obtain ⟨hc0, hc1, hc2, hc3, hc4⟩ := hA k hlt
      clear hA
      have hki : (k : Int) < n := by omega
      have hget : xs[k]'(by omega) = nthName xs k := (nthName_eq (by omega)).symm
      cases hp : p (nthName xs k)
      · have HP := Lib.hid hp
        have HG := Lib.hid hget
        clear hp hget
        go_wp2_with (first | (go_at_call 195; refine (HK.out _ hx k hlt).mono ?_; rintro e w1 ⟨rfl, hx1⟩; rw [HP.out]))
        go_roundw
        case rel =>
          refine ⟨k + 1, by omega, by go_num, fun j hj hjk => ?_, hx.trans hx1⟩
          by_cases e : j = k
          · subst e; rw [HG.out]; exact HP.out
          · exact HA.out j hj (by omega)
        case measure => simp [intOf]; omega
      · have HP := Lib.hid hp
        have HG := Lib.hid hget
        clear hp hget
        go_wp2_with (first | (go_at_call 195; refine (HK.out _ hx k hlt).mono ?_; rintro e w1 ⟨rfl, hx1⟩; rw [HP.out]))
        go_ret
        exact ⟨ret_int (idxP_at (by omega) (by rw [HG.out]; exact HP.out) HA.out).symm, hx.trans hx1⟩
    · obtain rfl : k = n := by omega
      go_wp2
      go_ret
      exact ⟨ret_int (idxP_none (fun j hj => HA.out j hj (by omega))).symm, hx⟩

set_option maxHeartbeats 400000 in
theorem anyClash_any (a : Option Addr) (n c : Nat) (xs : List NameV) (p : NameV → Bool) (q0 : Addr) (w : World) (hr : RdName w a n xs) (hk : ∀ w1, Ext w w1 → ∀ k, k < n → Calls Tryz.prog 195 #[valName (nthName xs k), .pointer (some q0)] w1 fun e w2 => e = .returned (.bool (p (nthName xs k))) ∧ Ext w1 w2) :
    Calls Tryz.prog 95 #[.slice a n c, .func (.func 195) #[] #[.pointer (some q0)]] w fun e w' => e = .returned (.bool (anyP p xs)) ∧ Ext w w' := by
  go_enter Tryz.func95, Tryz.ntmps95
  go_wp2_with fail
  refine (idxClash_any _ _ _ _ p _ _ hr hk).mono ?_
  rintro e w' ⟨rfl, hx⟩
  go_wp2
  go_ret
  exact ⟨ret_bool rfl, hx⟩

/-- All are names, and official ones with one language do not meet. -/
def firstsN (xs : List NameV) : Bool := (List.range xs.length).all fun i => nameB (nthName xs i) && !(decide ((nthName xs i).status = 0) && anyP (clashB (nthName xs i)) (xs.take i))
def namesB (xs : List NameV) : Bool := firstsN xs && decide (xs.length ≤ 12)
theorem firstsN_bad {xs : List NameV} {k : Nat} (hk : k < xs.length) (h : nameB (nthName xs k) = false ∨ ((nthName xs k).status = 0 ∧ anyP (clashB (nthName xs k)) (xs.take k) = true)) : firstsN xs = false := by
  rw [firstsN, List.all_eq_false]
  refine ⟨k, List.mem_range.2 hk, ?_⟩
  rcases h with h | ⟨h, h2⟩
  · simp [h]
  · simp [h, h2]
theorem firstsN_good {xs : List NameV} (h : ∀ k, k < xs.length → nameB (nthName xs k) = true ∧ ((nthName xs k).status = 0 → anyP (clashB (nthName xs k)) (xs.take k) = false)) : firstsN xs = true := by
  rw [firstsN, List.all_eq_true]
  intro k hk
  obtain ⟨h1, h2⟩ := h k (List.mem_range.1 hk)
  by_cases h0 : (nthName xs k).status = 0
  · simp [h1, h2 h0]
  · simp [h1, h0]
theorem RdName.front {w : World} {a : Option Addr} {n : Nat} {xs : List NameV} (h : RdName w a n xs) {k : Nat} (hk : k ≤ n) : RdName w a k (xs.take k) := by
  have hl := h.len
  have h2 := h.1.2.2
  rw [← List.take_append_drop k xs, List.flatMap_append] at h2
  exact ⟨⟨by simp; omega, Nat.le_trans hk h.le, Rd.front h2⟩, fun s hs => h.2 s (List.mem_of_mem_take hs)⟩

set_option maxRecDepth 100000 in
set_option maxHeartbeats 2000000 in
theorem implAreNames_any (a : Option Addr) (n c : Nat) (xs : List NameV) (w : World) (hr : RdName w a n xs) (hcap : n ≤ c) (hmax : MaxW w) :
    Calls Tryz.prog 153 #[.slice a n c] w fun e w' => e = .returned (.bool (namesB xs)) ∧ Ext w w' := by
  have hm := hr.le
  go_enter Tryz.func153, Tryz.ntmps153
  go_wp2
  go_loopw [8] (fun i wr => ∃ k : Nat, k ≤ n ∧ i = .int .i64 k ∧ (∀ j, j < k → nameB (nthName xs j) = true ∧ ((nthName xs j).status = 0 → anyP (clashB (nthName xs j)) (xs.take j) = false)) ∧ Ext w wr) (fun i _ => n - (intOf i).toNat)
  case atStart => exact ⟨0, Nat.zero_le _, rfl, by simp, Ext.refl _⟩
  case round =>
    obtain ⟨k, hk, rfl, hall, hx⟩ := hrel
    have HA := Lib.hid hall
    clear hall
    by_cases hlt : k < n
    · obtain ⟨b, o, rfl, hbl, hA⟩ := (hr.ext hx).at (by omega)
      obtain ⟨hc0, hc1, hc2, hc3, hc4⟩ := hA k hlt
      have hok := hr.ok hlt
      have hln := hr.len
      have hfr := (hr.ext hx).front (Nat.le_of_lt hlt)
      have hki : (k : Int) < n := by omega
      clear hA
      cases h : nameB (nthName xs k)
      · have HH := Lib.hid h
        clear h
        go_wp2_with fail
        refine (implIsName_any (nthName xs k) _ hok (hmax.ext (hx.alloc _))).mono ?_
        rintro e w1 ⟨rfl, hx1⟩
        rw [HH.out]
        go_wp2
        go_ret
        exact ⟨ret_bool (by rw [namesB, firstsN_bad (by omega) (.inl HH.out)]; rfl), ((hx.alloc _).trans hx1)⟩
      · have HH := Lib.hid h
        clear h
        have p0 : (0 : Int) ≤ k := by omega
        have p1 : (k : Int) ≤ c := by omega
        go_wp2_with fail
        refine (implIsName_any (nthName xs k) _ hok (hmax.ext (hx.alloc _))).mono ?_
        rintro e w1 ⟨rfl, hx1⟩
        rw [HH.out]
        have hbx := HoldsName.box wr (nthName xs k) 69 hx1
        have HB := Lib.hid hbx
        clear hbx
        go_wp2_with fail
        refine (anyClash_any _ _ _ _ (clashB (nthName xs k)) ⟨wr.heap.size, 0, none⟩ _ (hfr.ext (((Ext.refl _).alloc _).trans hx1)) (fun w2 hx2 j hj => clash_any _ _ _ _ (HB.out.ext hx2))).mono ?_
        rintro e w2 ⟨rfl, hx2⟩
        have b2 : w2.cell? ⟨wr.heap.size, 2, none⟩ = some (.int .i64 (nthName xs k).status) := box_keptG (hx1.trans hx2) 2
        clear hc0 hc1 hc2 hc3 hc4
        cases hf : anyP (clashB (nthName xs k)) (xs.take k) <;> by_cases h0 : (nthName xs k).status = 0
        all_goals
          have HF := Lib.hid (And.intro hf h0)
          clear hf
        · rw [h0] at b2
          go_wp2
          go_roundw
          case rel =>
            refine ⟨k + 1, by omega, by go_num, fun j hj => ?_, (((hx.alloc _).trans hx1).trans hx2)⟩
            by_cases e : j = k
            · rw [e]; exact ⟨HH.out, fun _ => HF.out.1⟩
            · exact HA.out j (by omega)
          case measure => simp [intOf]; omega
        · have hb : ((nthName xs k).status == 0) = false := by simpa using h0
          go_wp2
          go_roundw
          case rel =>
            refine ⟨k + 1, by omega, by go_num, fun j hj => ?_, (((hx.alloc _).trans hx1).trans hx2)⟩
            by_cases e : j = k
            · rw [e]; exact ⟨HH.out, fun _ => HF.out.1⟩
            · exact HA.out j (by omega)
          case measure => simp [intOf]; omega
        · rw [h0] at b2
          go_wp2
          go_ret
          exact ⟨ret_bool (by rw [namesB, firstsN_bad (k := k) (by omega) (.inr ⟨HF.out.2, HF.out.1⟩)]; rfl), (((hx.alloc _).trans hx1).trans hx2)⟩
        · have hb : ((nthName xs k).status == 0) = false := by simpa using h0
          go_wp2
          go_roundw
          case rel =>
            refine ⟨k + 1, by omega, by go_num, fun j hj => ?_, (((hx.alloc _).trans hx1).trans hx2)⟩
            by_cases e : j = k
            · rw [e]; exact ⟨HH.out, fun h => absurd h HF.out.2⟩
            · exact HA.out j (by omega)
          case measure => simp [intOf]; omega
    · obtain rfl : k = n := by omega
      have hln := hr.len
      go_wp2
      go_ret
      exact ⟨ret_bool (by rw [namesB, firstsN_good (fun j hj => HA.out j (by omega)), hln, Bool.true_and]; exact decide_eq_decide.2 (by omega)), hx⟩

end Go.Proofs.YtjelmidkkpchkaaGreatDoor

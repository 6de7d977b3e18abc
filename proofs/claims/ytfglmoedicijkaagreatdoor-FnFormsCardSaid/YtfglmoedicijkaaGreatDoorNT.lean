/-
  The walks of the two IsEndingTable.
-/
import Derived.Test.YtfglmoedicijkaaGreatDoorNEnding
import Derived.Deep.RegionHeld3
import Derived.Deep.RegionWith
import Derived.Deep.RegionLaw
import Derived.Deep.DrawnRows
import Derived.Deep.QuietTactic
import Derived.BigQuiet
import Derived.Laws.StructEq
namespace Go.Proofs.YtfglmoedicijkaaGreatDoor
open Go.RowKit
attribute [local go_sem ↓] Go.wp_at_zero Go.wp_at_succ

def eqEndB (x y : EndingV) : Bool := (x.old.toList == y.old.toList) && ((x.new.toList == y.new.toList) && (x.kase == y.kase))
theorem eqEndB_iff {x y : EndingV} : eqEndB x y = true ↔ x = y := by
  constructor
  · intro h
    simp only [eqEndB, Bool.and_eq_true, beq_iff_eq, ByteArray.toList_eq] at h
    obtain ⟨h1, h2, h3⟩ := h
    cases x; cases y
    simp only [EndingV.mk.injEq]
    exact ⟨eqS.1 h1, eqS.1 h2, h3⟩
  · rintro rfl; simp [eqEndB]
theorem box_drew {w w1 : World} {cs : Array Value} {t : TypeId} (h : Ext (w.alloc (.cells cs t)).drew w1) (k : Nat) : w1.cell? ⟨w.heap.size, k, none⟩ = cs[k]? := by
  rw [Below.cell h (p := ⟨w.heap.size, k, none⟩) (by simp)]
  simp [World.cell?_alloc_at]
/-- A boxed variable, as it was behind calls. -/
theorem box_kept {w w1 : World} {cs : Array Value} {t : TypeId} (h : Ext (w.alloc (.cells cs t)) w1) (k : Nat) : w1.cell? ⟨w.heap.size, k, none⟩ = cs[k]? := by
  rw [Below.cell h (p := ⟨w.heap.size, k, none⟩) (by simp)]
  simp [World.cell?_alloc_at]
/-- An ending: other text behind a word, each of at most six letters; a case from 1 to 9. -/
def endB (x : EndingV) : Bool := smallB x.old 0 6 && (smallB x.new 0 6 && (!(x.old.toList == x.new.toList) && inB x.kase 1 9))

set_option maxRecDepth 100000 in
set_option maxHeartbeats 400000 in
theorem isEnding_any (x : EndingV) (w : World) (hx : okEnding x) :
    Calls Tryz.prog 66 #[valEnding x] w fun e w' => e = .returned (.bool (endB x)) ∧ Ext w w' := by
  obtain ⟨x0, x1, x2⟩ := x
  obtain ⟨hx0, hx1⟩ := hx
  simp only [valEnding, endB] at hx0 hx1 ⊢
  cases h0 : smallB x0 0 6
  · have H0 := Lib.hid h0
    clear h0
    go_enter Tryz.func66, Tryz.ntmps66
    go_wp2_with fail
    refine (isSmall_any _ _ _ _ (by omega)).mono ?_
    rintro e w1 ⟨rfl, hx1⟩
    rw [H0.out]
    go_wp2
    go_ret
    exact ⟨rfl, ((Ext.refl _).alloc _).trans hx1⟩
  · have H0 := Lib.hid h0
    clear h0
    cases h1 : smallB x1 0 6
    · have H1 := Lib.hid h1
      clear h1
      go_enter Tryz.func66, Tryz.ntmps66
      go_wp2_with fail
      refine (isSmall_any _ _ _ _ (by omega)).mono ?_
      rintro e w1 ⟨rfl, hxa⟩
      rw [H0.out]
      have b1 : w1.cell? ⟨w.heap.size, 1, none⟩ = some (.string x1) := box_kept hxa 1
      go_wp2_with fail
      refine (isSmall_any _ _ _ _ (by omega)).mono ?_
      rintro e w2 ⟨rfl, hxb⟩
      rw [H1.out]
      go_wp2
      go_ret
      exact ⟨rfl, ((Ext.refl _).alloc _).trans (hxa.trans hxb)⟩
    · have H1 := Lib.hid h1
      clear h1
      cases h2 : x0.toList == x1.toList
      · have H2 := Lib.hid h2
        go_enter Tryz.func66, Tryz.ntmps66
        go_wp2_with fail
        refine (isSmall_any _ _ _ _ (by omega)).mono ?_
        rintro e w1 ⟨rfl, hxa⟩
        rw [H0.out]
        have b1 : w1.cell? ⟨w.heap.size, 1, none⟩ = some (.string x1) := box_kept hxa 1
        go_wp2_with fail
        refine (isSmall_any _ _ _ _ (by omega)).mono ?_
        rintro e w2 ⟨rfl, hxb⟩
        rw [H1.out]
        have b2 : w2.cell? ⟨w.heap.size, 0, none⟩ = some (.string x0) := box_kept (hxa.trans hxb) 0
        have b3 : w2.cell? ⟨w.heap.size, 1, none⟩ = some (.string x1) := box_kept (hxa.trans hxb) 1
        have b4 : w2.cell? ⟨w.heap.size, 2, none⟩ = some (.int .i64 x2) := box_kept (hxa.trans hxb) 2
        go_wp2_with (first | (go_at_call 80; refine (within_any _ _ _ _).mono ?_; rintro e w' ⟨rfl, rfl⟩))
        go_ret
        exact ⟨rfl, ((Ext.refl _).alloc _).trans (hxa.trans hxb)⟩
      · have H2 := Lib.hid h2
        go_enter Tryz.func66, Tryz.ntmps66
        go_wp2_with fail
        refine (isSmall_any _ _ _ _ (by omega)).mono ?_
        rintro e w1 ⟨rfl, hxa⟩
        rw [H0.out]
        have b1 : w1.cell? ⟨w.heap.size, 1, none⟩ = some (.string x1) := box_kept hxa 1
        go_wp2_with fail
        refine (isSmall_any _ _ _ _ (by omega)).mono ?_
        rintro e w2 ⟨rfl, hxb⟩
        rw [H1.out]
        have b2 : w2.cell? ⟨w.heap.size, 0, none⟩ = some (.string x0) := box_kept (hxa.trans hxb) 0
        have b3 : w2.cell? ⟨w.heap.size, 1, none⟩ = some (.string x1) := box_kept (hxa.trans hxb) 1
        go_wp2
        go_ret
        exact ⟨rfl, ((Ext.refl _).alloc _).trans (hxa.trans hxb)⟩

@[go_sem ↓ high] theorem Tryz.eqEnding_op (x0 x1 y0 y1 : ByteArray) (x2 y2 : Int) (w : World) :
    (Op.equalIn 10000 75 (.agg #[.string x0, .string x1, .int .i64 x2]) (.agg #[.string y0, .string y1, .int .i64 y2])).run Tryz.prog w = .ok (eqEndB ⟨x0, x1, x2⟩ ⟨y0, y1, y2⟩) w := by
  have u3 := Tryz.underlying2
  have a3 := Tryz.isAgg2
  have z3 := Tryz.sizeOf2
  have u4 := Tryz.underlying9
  have a4 := Tryz.isAgg9
  have z4 := Tryz.sizeOf9
  have hS : Tryz.prog.underlying 75 = some (.struct (Tryz.prog.fieldsOf 75)) := by kernel_rfl
  have hp : Tryz.prog.stoodInHeld 75 = false := by kernel_rfl
  rw [show (10000 : Nat) = 9999 + 1 from rfl, run_equalIn_agg w 9999 75 _ _ hS hp]
  simp only [Program.fieldsOf, Tryz.underlying75]
  go_simp
  simp only [eqEndB]
  by_cases h1 : x0.toList = y0.toList <;> by_cases h2 : x1.toList = y1.toList <;> by_cases h3 : x2 = y2 <;> simp [h1, h2, h3]
theorem Tryz.eqGuardEnding : Tryz.prog.eqGuardType Tryz.prog.depth 75 = false := by kernel_rfl

/-- Where x lies first, -1 if nowhere. -/
def idxE (xs : List EndingV) (x : EndingV) : Int := match xs.findIdx? (fun y => eqEndB x y) with | some k => (k : Int) | none => -1
def hasE (xs : List EndingV) (x : EndingV) : Bool := decide (0 ≤ idxE xs x)
theorem idxE_at {xs : List EndingV} {x : EndingV} {k : Nat} (hk : k < xs.length) (h : nthEnding xs k = x) (hp : ∀ j, j < k → nthEnding xs j ≠ x) : idxE xs x = k := by
  have e : xs.findIdx? (fun y => eqEndB x y) = some k := by
    rw [List.findIdx?_eq_some_iff_getElem]
    refine ⟨hk, ?_, fun j hj => ?_⟩
    · rw [nthEnding_eq hk] at h; exact eqEndB_iff.2 h.symm
    · have := hp j hj
      rw [nthEnding_eq (by omega)] at this
      cases hb : eqEndB x xs[j]
      · simp
      · exact absurd (eqEndB_iff.1 hb).symm this
  rw [idxE, e]
theorem idxE_none {xs : List EndingV} {x : EndingV} (hp : ∀ j, j < xs.length → nthEnding xs j ≠ x) : idxE xs x = -1 := by
  have e : xs.findIdx? (fun y => eqEndB x y) = none := by
    rw [List.findIdx?_eq_none_iff]
    intro y hy
    obtain ⟨j, hj, rfl⟩ := List.getElem_of_mem hy
    have := hp j hj
    rw [nthEnding_eq hj] at this
    cases hb : eqEndB x xs[j]
    · rfl
    · exact absurd (eqEndB_iff.1 hb).symm this
  rw [idxE, e]
theorem hasE_none {xs : List EndingV} {x : EndingV} (hp : ∀ j, j < xs.length → nthEnding xs j ≠ x) : hasE xs x = false := by rw [hasE, idxE_none hp]; rfl
theorem hasE_at {xs : List EndingV} {x : EndingV} {k : Nat} (hk : k < xs.length) (h : nthEnding xs k = x) : hasE xs x = true := by
  rw [hasE, idxE]
  cases h2 : xs.findIdx? (fun y => eqEndB x y) with
  | none =>
    have := List.findIdx?_eq_none_iff.1 h2 _ (nthEnding_mem hk)
    rw [h, eqEndB_iff.2 rfl] at this
    cases this
  | some m => simp

set_option maxRecDepth 100000 in
set_option maxHeartbeats 400000 in
theorem slIndex_ending_any (a : Option Addr) (n c : Nat) (x : EndingV) (xs : List EndingV) (w : World) (hr : RdEnding w a n xs) :
    Calls Tryz.prog 87 #[.slice a n c, valEnding x] w fun e w' => e = .returned (.int .i64 (idxE xs x)) ∧ Ext w w' := by
  have hm := hr.le
  obtain ⟨x0, x1, x2⟩ := x
  rw [valEnding]
  go_enter Tryz.func87, Tryz.ntmps87
  go_wp2
  go_loopw [8] (fun i wr => ∃ k : Nat, k ≤ n ∧ i = .int .i64 k ∧ (∀ j, j < k → nthEnding xs j ≠ ⟨x0, x1, x2⟩) ∧ Ext (w.alloc (.cells #[.string x0, .string x1, .int .i64 x2] 75)) wr) (fun i _ => n - (intOf i).toNat)
  case atStart => exact ⟨0, Nat.zero_le _, rfl, by simp, Ext.refl _⟩
  case round =>
    obtain ⟨k, hk, rfl, hall, hx⟩ := hrel
    have HA := Lib.hid hall
    clear hall
    by_cases hlt : k < n
    · obtain ⟨b, o, rfl, hbl, hA⟩ := (hr.ext (((Ext.refl _).alloc _).trans hx)).at (by omega)
      obtain ⟨hc0, hc1, hc2⟩ := hA k hlt
      have b0 : wr.cell? ⟨w.heap.size, 0, none⟩ = some (.string x0) := box_kept hx 0
      have b1 : wr.cell? ⟨w.heap.size, 1, none⟩ = some (.string x1) := box_kept hx 1
      have b2 : wr.cell? ⟨w.heap.size, 2, none⟩ = some (.int .i64 x2) := box_kept hx 2
      have hki : (k : Int) < n := by omega
      have hg := Tryz.eqGuardEnding
      clear hA
      cases hb : eqEndB ⟨x0, x1, x2⟩ (nthEnding xs k)
      · have HB := Lib.hid hb
        go_wp2
        go_still_tail 5, (by kernel_rfl)
        go_wp2
        go_roundw
        case rel =>
          refine ⟨k + 1, by omega, by go_num, fun j hj => ?_, hx.drew⟩
          by_cases e : j = k
          · rw [e]; intro h2; rw [h2, eqEndB_iff.2 rfl] at hb; cases hb
          · exact HA.out j (by omega)
        case measure => simp [intOf]; omega
      · have HB := Lib.hid hb
        go_wp2
        go_still_tail 5, (by kernel_rfl)
        go_wp2
        go_ret
        exact ⟨ret_int (idxE_at (by rw [hr.len]; exact hlt) (eqEndB_iff.1 HB.out).symm HA.out).symm, ((Ext.refl _).alloc _).trans (hx.drew)⟩
    · obtain rfl : k = n := by omega
      go_wp2
      go_ret
      exact ⟨ret_int (idxE_none (by rw [hr.len]; exact HA.out)).symm, ((Ext.refl _).alloc _).trans hx⟩

set_option maxHeartbeats 400000 in
theorem slContains_ending_any (a : Option Addr) (n c : Nat) (x : EndingV) (xs : List EndingV) (w : World) (hr : RdEnding w a n xs) :
    Calls Tryz.prog 67 #[.slice a n c, valEnding x] w fun e w' => e = .returned (.bool (hasE xs x)) ∧ Ext w w' := by
  obtain ⟨x0, x1, x2⟩ := x
  rw [valEnding]
  go_enter Tryz.func67, Tryz.ntmps67
  go_wp2_with fail
  refine (slIndex_ending_any _ _ _ ⟨x0, x1, x2⟩ _ _ (hr.ext ((Ext.refl _).alloc _))).mono ?_
  rintro e w' ⟨rfl, hx⟩
  go_wp2
  go_ret
  exact ⟨ret_bool rfl, ((Ext.refl _).alloc _).trans hx⟩

def firstsE (xs : List EndingV) : Bool := (List.range xs.length).all fun i => endB (nthEnding xs i) && !hasE (xs.take i) (nthEnding xs i)
def tableE (xs : List EndingV) : Bool := firstsE xs && decide (xs.length ≤ 16)
theorem firstsE_bad {xs : List EndingV} {k : Nat} (hk : k < xs.length) (h : endB (nthEnding xs k) = false ∨ hasE (xs.take k) (nthEnding xs k) = true) : firstsE xs = false := by
  rw [firstsE, List.all_eq_false]
  refine ⟨k, List.mem_range.2 hk, ?_⟩
  rcases h with h | h <;> simp [h]
theorem firstsE_good {xs : List EndingV} (h : ∀ k, k < xs.length → endB (nthEnding xs k) = true ∧ hasE (xs.take k) (nthEnding xs k) = false) : firstsE xs = true := by
  rw [firstsE, List.all_eq_true]
  intro k hk
  have := h k (List.mem_range.1 hk)
  simp [this.1, this.2]
theorem RdEnding.front {w : World} {a : Option Addr} {n : Nat} {xs : List EndingV} (h : RdEnding w a n xs) {k : Nat} (hk : k ≤ n) : RdEnding w a k (xs.take k) := by
  have hl := h.len
  have h2 := h.1.2.2
  rw [← List.take_append_drop k xs, List.flatMap_append] at h2
  exact ⟨⟨by simp; omega, Nat.le_trans hk h.le, Rd.front h2⟩, fun s hs => h.2 s (List.mem_of_mem_take hs)⟩

set_option maxRecDepth 100000 in
set_option maxHeartbeats 1000000 in
theorem implIsEndingTable_any (a : Option Addr) (n c : Nat) (xs : List EndingV) (w : World) (hr : RdEnding w a n xs) (hcap : n ≤ c) :
    Calls Tryz.prog 34 #[.slice a n c] w fun e w' => e = .returned (.bool (tableE xs)) ∧ Ext w w' := by
  have hm := hr.le
  go_enter Tryz.func34, Tryz.ntmps34
  go_wp2
  go_loopw [7] (fun i wr => ∃ k : Nat, k ≤ n ∧ i = .int .i64 k ∧ (∀ j, j < k → endB (nthEnding xs j) = true ∧ hasE (xs.take j) (nthEnding xs j) = false) ∧ Ext w wr) (fun i _ => n - (intOf i).toNat)
  case atStart => exact ⟨0, Nat.zero_le _, rfl, by simp, Ext.refl _⟩
  case round =>
    obtain ⟨k, hk, rfl, hall, hx⟩ := hrel
    have HA := Lib.hid hall
    clear hall
    by_cases hlt : k < n
    · obtain ⟨b, o, rfl, hbl, hA⟩ := (hr.ext hx).at (by omega)
      obtain ⟨hc0, hc1, hc2⟩ := hA k hlt
      have hok := hr.ok hlt
      have hln := hr.len
      have hfr := (hr.ext hx).front (Nat.le_of_lt hlt)
      have hki : (k : Int) < n := by omega
      clear hA
      cases h : endB (nthEnding xs k)
      · have HH := Lib.hid h
        clear h
        go_wp2
        first | (go_region_with (go_at_call 66; refine (isEnding_any (nthEnding xs k) _ hok).mono ?_; rintro e w1 ⟨rfl, hx1⟩; rw [HH.out])) | fail
        all_goals
          go_wp2
          go_ret
          exact ⟨ret_bool (by rw [tableE, firstsE_bad (by omega) (.inl HH.out)]; rfl), ((hx.alloc _).drew.trans hx1)⟩
      · cases hf : hasE (xs.take k) (nthEnding xs k)
        · have HH := Lib.hid (And.intro h hf)
          clear h hf
          have p0 : (0 : Int) ≤ k := by omega
          have p1 : (k : Int) ≤ c := by omega
          go_wp2
          first | (go_region_held3 (fun w' => w'.cell? ⟨wr.heap.size, 0, none⟩ = some (.string (nthEnding xs k).old) ∧ w'.cell? ⟨wr.heap.size, 1, none⟩ = some (.string (nthEnding xs k).new) ∧ w'.cell? ⟨wr.heap.size, 2, none⟩ = some (.int .i64 (nthEnding xs k).kase)) (go_keep)
            (first | (go_at_call 66; refine (isEnding_any (nthEnding xs k) _ hok).mono ?_; rintro e w1 ⟨rfl, hx1⟩; rw [HH.out.1]; have k0 := box_drew hx1 0; have k1 := box_drew hx1 1; have k2 := box_drew hx1 2) | (go_at_call 67; refine (slContains_ending_any _ _ _ (nthEnding xs k) _ _ (hfr.ext (((Ext.refl _).alloc _).drew.trans hx1))).mono ?_; rintro e w2 ⟨rfl, hx2⟩; rw [HH.out.2]; have k3 := (Below.cell hx2 (p := ⟨wr.heap.size, 0, none⟩) (by have := hx1.size; simp at this; show wr.heap.size < _; omega)).trans k0; have k4 := (Below.cell hx2 (p := ⟨wr.heap.size, 1, none⟩) (by have := hx1.size; simp at this; show wr.heap.size < _; omega)).trans k1; have k5 := (Below.cell hx2 (p := ⟨wr.heap.size, 2, none⟩) (by have := hx1.size; simp at this; show wr.heap.size < _; omega)).trans k2))) | fail
          all_goals
            go_wp2
            go_roundw
            case rel =>
              refine ⟨k + 1, by omega, by go_num, fun j hj => ?_, (((hx.alloc _).drew.trans hx1).trans hx2)⟩
              by_cases e : j = k
              · rw [e]; exact HH.out
              · exact HA.out j (by omega)
            case measure => simp [intOf]; omega
        · have HH := Lib.hid (And.intro h hf)
          clear h hf
          have p0 : (0 : Int) ≤ k := by omega
          have p1 : (k : Int) ≤ c := by omega
          go_wp2
          first | (go_region_held3 (fun w' => w'.cell? ⟨wr.heap.size, 0, none⟩ = some (.string (nthEnding xs k).old) ∧ w'.cell? ⟨wr.heap.size, 1, none⟩ = some (.string (nthEnding xs k).new) ∧ w'.cell? ⟨wr.heap.size, 2, none⟩ = some (.int .i64 (nthEnding xs k).kase)) (go_keep)
            (first | (go_at_call 66; refine (isEnding_any (nthEnding xs k) _ hok).mono ?_; rintro e w1 ⟨rfl, hx1⟩; rw [HH.out.1]; have k0 := box_drew hx1 0; have k1 := box_drew hx1 1; have k2 := box_drew hx1 2) | (go_at_call 67; refine (slContains_ending_any _ _ _ (nthEnding xs k) _ _ (hfr.ext (((Ext.refl _).alloc _).drew.trans hx1))).mono ?_; rintro e w2 ⟨rfl, hx2⟩; rw [HH.out.2]; have k3 := (Below.cell hx2 (p := ⟨wr.heap.size, 0, none⟩) (by have := hx1.size; simp at this; show wr.heap.size < _; omega)).trans k0; have k4 := (Below.cell hx2 (p := ⟨wr.heap.size, 1, none⟩) (by have := hx1.size; simp at this; show wr.heap.size < _; omega)).trans k1; have k5 := (Below.cell hx2 (p := ⟨wr.heap.size, 2, none⟩) (by have := hx1.size; simp at this; show wr.heap.size < _; omega)).trans k2))) | fail
          all_goals
            go_wp2
            go_ret
            exact ⟨ret_bool (by rw [tableE, firstsE_bad (k := k) (by omega) (.inr HH.out.2)]; rfl), (((hx.alloc _).drew.trans hx1).trans hx2)⟩
    · obtain rfl : k = n := by omega
      have hln := hr.len
      go_wp2
      go_ret
      exact ⟨ret_bool (by rw [tableE, firstsE_good (fun j hj => HA.out j (by omega)), hln, Bool.true_and]; exact decide_eq_decide.2 (by omega)), hx⟩

end Go.Proofs.YtfglmoedicijkaaGreatDoor

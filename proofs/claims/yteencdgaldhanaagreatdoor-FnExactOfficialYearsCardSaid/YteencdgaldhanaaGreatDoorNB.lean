/-
  BestIn on both sides.
-/
import Derived.Test.YteencdgaldhanaaGreatDoorNU2
import Derived.Test.YteencdgaldhanaaGreatDoorUX
import Derived.Test.YteencdgaldhanaaGreatDoorM0
import Derived.Deep.DrawnRows
namespace Go.Proofs.YteencdgaldhanaaGreatDoor
open Go.RowKit
attribute [local go_sem ↓] Go.wp_at_zero Go.wp_at_succ

/-! Languages. -/
def langsB (ls : List ByteArray) : Bool := !anyP (fun s => !langB s) ls
theorem langsB_bad {ls : List ByteArray} {k : Nat} (hk : k < ls.length) (h : langB (nthS ls k) = false) : langsB ls = false := by
  rw [langsB, anyP_at (k := k) hk (by rw [← nthS_eq hk, h]; rfl)]; rfl
theorem langsB_good {ls : List ByteArray} (h : ∀ k, k < ls.length → langB (nthS ls k) = true) : langsB ls = true := by
  rw [langsB, anyP_none fun j hj => by rw [← nthS_eq hj, h j hj]; rfl]; rfl

set_option maxHeartbeats 400000 in
theorem langClosure_any (s : ByteArray) (w : World) (hs : s.size ≤ 9223372036854775807) :
    Calls Tryz.prog 101 #[.string s] w fun e w' => e = .returned (.bool (!langB s)) ∧ Ext w w' := by
  go_enter Tryz.func101, Tryz.ntmps101
  go_wp2_with fail
  refine (isLanguage_any _ _ hs).mono ?_
  rintro e w1 ⟨rfl, e1⟩
  go_wp2
  go_ret
  exact ⟨rfl, e1⟩

set_option maxRecDepth 100000 in
set_option maxHeartbeats 400000 in
theorem idxLang_any (a : Option Addr) (n c : Nat) (xs : List ByteArray) (p : ByteArray → Bool) (w : World) (hr : RdS w a n xs) (hk : ∀ w1, Ext w w1 → ∀ k, k < n → Calls Tryz.prog 101 #[.string (nthS xs k)] w1 fun e w2 => e = .returned (.bool (p (nthS xs k))) ∧ Ext w1 w2) :
    Calls Tryz.prog 123 #[.slice a n c, .func (.func 101) #[] #[]] w fun e w' => e = .returned (.int .i64 (idxP p xs)) ∧ Ext w w' := by
  have hm := hr.le
  have hln := hr.len
  have HK := Lib.hid hk
  clear hk
  go_enter Tryz.func123, Tryz.ntmps123
  go_wp2
  go_loopw [8] (fun i wr => ∃ k : Nat, k ≤ n ∧ i = .int .i64 k ∧ (∀ j (hj : j < xs.length), j < k → p xs[j] = false) ∧ Ext w wr) (fun i _ => n - (intOf i).toNat)
  case atStart => exact ⟨0, Nat.zero_le _, rfl, fun j _ h => by omega, Ext.refl _⟩
  case round =>
    obtain ⟨k, hk, rfl, hall, hx⟩ := hrel
    have HA := Lib.hid hall
    clear hall
    by_cases hlt : k < n
    · obtain ⟨b, o, rfl, hbl, hA⟩ := (hr.ext hx).at (by omega)
      have hc0 := hA k hlt
      clear hA
      have hki : (k : Int) < n := by omega
      have hget : xs[k]'(by omega) = nthS xs k := (nthS_eq (by omega)).symm
      cases hp : p (nthS xs k)
      · have HP := Lib.hid hp
        have HG := Lib.hid hget
        clear hp hget
        go_wp2_with (first | (go_at_call 101; refine (HK.out _ hx k hlt).mono ?_; rintro e w1 ⟨rfl, hx1⟩; rw [HP.out]))
        go_roundw
        case rel =>
          refine ⟨k + 1, by omega, by go_num, fun j hj hjk => ?_, hx.trans hx1⟩
          by_cases e : j = k
          · subst e; rw [HG.out]; exact HP.out
          · exact HA.out j hj (by omega)
        case measure => simp [intOf]; omega
      · have HP := Lib.hid hp
        have HG := Lib.hid hget
        clear hp hget
        go_wp2_with (first | (go_at_call 101; refine (HK.out _ hx k hlt).mono ?_; rintro e w1 ⟨rfl, hx1⟩; rw [HP.out]))
        go_ret
        exact ⟨ret_int (idxP_at (by omega) (by rw [HG.out]; exact HP.out) HA.out).symm, hx.trans hx1⟩
    · obtain rfl : k = n := by omega
      go_wp2
      go_ret
      exact ⟨ret_int (idxP_none (fun j hj => HA.out j hj (by omega))).symm, hx⟩

set_option maxHeartbeats 400000 in
theorem anyLang_any (a : Option Addr) (n c : Nat) (xs : List ByteArray) (p : ByteArray → Bool) (w : World) (hr : RdS w a n xs) (hk : ∀ w1, Ext w w1 → ∀ k, k < n → Calls Tryz.prog 101 #[.string (nthS xs k)] w1 fun e w2 => e = .returned (.bool (p (nthS xs k))) ∧ Ext w1 w2) :
    Calls Tryz.prog 100 #[.slice a n c, .func (.func 101) #[] #[]] w fun e w' => e = .returned (.bool (anyP p xs)) ∧ Ext w w' := by
  go_enter Tryz.func100, Tryz.ntmps100
  go_wp2_with fail
  refine (idxLang_any _ _ _ _ p  _ hr hk).mono ?_
  rintro e w' ⟨rfl, hx⟩
  go_wp2
  go_ret
  exact ⟨ret_bool rfl, hx⟩

set_option maxHeartbeats 400000 in
theorem areLanguages_any (a : Option Addr) (n c : Nat) (ls : List ByteArray) (w : World) (hr : RdS w a n ls) :
    Calls Tryz.prog 66 #[.slice a n c] w fun e w' => e = .returned (.bool (langsB ls)) ∧ Ext w w' := by
  go_enter Tryz.func66, Tryz.ntmps66
  go_wp2_with fail
  refine (anyLang_any _ _ _ _ (fun s => !langB s) _ hr (fun w1 hx k hk => langClosure_any _ _ (by have := hr.size hk; omega))).mono ?_
  rintro e w1 ⟨rfl, e1⟩
  go_wp2
  go_ret
  exact ⟨rfl, e1⟩

/-! The best name. -/
def betterB (xs : List NameV) (l : ByteArray) (b : Int) (i : Nat) : Bool := decide ((nthName xs i).lang = l) && (decide (b < 0) || decide ((nthName xs i).status < (nthName xs b.toNat).status))
def bestS (xs : List NameV) (l : ByteArray) (b : Int) (i : Nat) : Int := if betterB xs l b i = true then (i : Int) else b
def bestN (xs : List NameV) (l : ByteArray) (y : Int) (k : Nat) : Int := (List.range k).foldl (fun b i => if hasY xs y i = true then bestS xs l b i else b) (-1)
def bestA (xs : List NameV) (l : ByteArray) (y : Int) : Int := bestN xs l y xs.length
def bestM (xs : List NameV) (l : ByteArray) (y : Int) (m : Nat) : Int := ((usedX xs y).take m).foldl (bestS xs l) (-1)
theorem bestN_step (xs : List NameV) (l : ByteArray) (y : Int) (k : Nat) : bestN xs l y (k + 1) = if hasY xs y k = true then bestS xs l (bestN xs l y k) k else bestN xs l y k := by
  rw [bestN, List.range_succ, List.foldl_append]; rfl
theorem bestM_step {xs : List NameV} {l : ByteArray} {y : Int} {m : Nat} (hm : m < (usedX xs y).length) : bestM xs l y (m + 1) = bestS xs l (bestM xs l y m) (usedX xs y)[m] := by
  rw [bestM, List.take_succ_eq_append_getElem hm, List.foldl_append]; rfl
theorem bestM_all (xs : List NameV) (l : ByteArray) (y : Int) : bestM xs l y (usedX xs y).length = bestA xs l y := by
  rw [bestM, List.take_length, usedX, List.foldl_filter]; rfl
theorem bestN_range (xs : List NameV) (l : ByteArray) (y : Int) : ∀ k, -1 ≤ bestN xs l y k ∧ bestN xs l y k < k := by
  intro k
  induction k with
  | zero => simp [bestN]
  | succ k ih =>
    rw [bestN_step]
    split
    · rw [bestS]; split <;> omega
    · omega
theorem bestM_range (xs : List NameV) (l : ByteArray) (y : Int) : ∀ m, m ≤ (usedX xs y).length → -1 ≤ bestM xs l y m ∧ bestM xs l y m < xs.length := by
  intro m
  induction m with
  | zero => intro _; simp [bestM]; omega
  | succ m ih =>
    intro hm
    have h1 := ih (by omega)
    have h2 := (usedX_get (xs := xs) (y := y) (m := m) (by omega)).2
    rw [bestM_step (by omega), bestS]
    split <;> omega
theorem bestS_lang {xs : List NameV} {l : ByteArray} {b : Int} {i : Nat} (h : (nthName xs i).lang ≠ l) : bestS xs l b i = b := by simp [bestS, betterB, h]
theorem bestS_new {xs : List NameV} {l : ByteArray} {b : Int} {i : Nat} (h : (nthName xs i).lang = l) (h2 : b < 0) : bestS xs l b i = i := by simp [bestS, betterB, h, h2]
theorem bestS_more {xs : List NameV} {l : ByteArray} {b : Nat} {i : Nat} (h : (nthName xs i).lang = l) (h2 : (nthName xs i).status < (nthName xs b).status) : bestS xs l b i = i := by simp [bestS, betterB, h, h2]
theorem bestS_less {xs : List NameV} {l : ByteArray} {b : Nat} {i : Nat} (h2 : ¬ (nthName xs i).status < (nthName xs b).status) : bestS xs l b i = b := by
  have : ¬ (b : Int) < 0 := by omega
  simp [bestS, betterB, h2, this]
/-- Over all languages. -/
def bestI (xs : List NameV) (ls : List ByteArray) (y : Int) : Int := idxP (fun l => decide (0 ≤ bestA xs l y)) ls
def bestR (xs : List NameV) (ls : List ByteArray) (y : Int) : Int := if bestI xs ls y < 0 then -1 else bestA xs (nthS ls (bestI xs ls y).toNat) y
theorem bestR_at {xs : List NameV} {ls : List ByteArray} {y : Int} {q : Nat} (hq : q < ls.length) (h : 0 ≤ bestA xs (nthS ls q) y) (hp : ∀ j, j < q → bestA xs (nthS ls j) y < 0) : bestR xs ls y = bestA xs (nthS ls q) y := by
  have hi : bestI xs ls y = (q : Nat) := idxP_at hq (by rw [← nthS_eq hq]; simpa using h) fun j hj hjq => by
    rw [← nthS_eq hj]; simpa using hp j hjq
  rw [bestR, hi, if_neg (by omega)]; rfl
theorem bestR_none {xs : List NameV} {ls : List ByteArray} {y : Int} (hp : ∀ j, j < ls.length → bestA xs (nthS ls j) y < 0) : bestR xs ls y = -1 := by
  have hi : bestI xs ls y = -1 := idxP_none fun j hj => by
    rw [← nthS_eq hj]; simpa using hp j hj
  rw [bestR, hi]; rfl

set_option maxRecDepth 100000 in
set_option maxHeartbeats 4000000 in
theorem bestIn_any (a a2 : Option Addr) (n c m c2 : Nat) (y : Int) (xs : List NameV) (ls : List ByteArray) (w : World) (hr : RdName w a n xs) (hr2 : RdS w a2 m ls) :
    Calls Tryz.prog 67 #[.slice a n c, .slice a2 m c2, .int .i64 y] w fun e w' => e = .returned (.int .i64 (bestR xs ls y)) ∧ Ext w w' := by
  have hm := hr.le
  have hln := hr.len
  have hm2 := hr2.le
  have hln2 := hr2.len
  go_enter Tryz.func67, Tryz.ntmps67
  go_wp2
  go_loopw [14] (fun i wr => ∃ q : Nat, q ≤ m ∧ i = .int .i64 q ∧ (∀ j, j < q → bestA xs (nthS ls j) y < 0) ∧ Ext w wr) (fun i _ => m - (intOf i).toNat)
  case atStart => exact ⟨0, Nat.zero_le _, rfl, fun j h => by omega, Ext.refl _⟩
  case round =>
    obtain ⟨q, hq, rfl, hall, hx⟩ := hrel
    have HQ := Lib.hid hall
    clear hall
    by_cases hlq : q < m
    · obtain ⟨b2, o2, rfl, hbl2, hcl⟩ := (hr2.ext hx).at (by omega)
      have hck := hcl q hlq
      clear hcl
      have hqi : (q : Int) < m := by omega
      go_wp2
      go_loopw [9, 20] (fun u i wi => ∃ k : Nat, k ≤ n ∧ i = .int .i64 k ∧ u = .int .i64 (bestN xs (nthS ls q) y k) ∧ Ext wr wi) (fun _ i _ => n - (intOf i).toNat)
      case atStart => exact ⟨0, Nat.zero_le _, rfl, rfl, Ext.refl _⟩
      case round =>
        obtain ⟨k, hk, rfl, rfl, hxi⟩ := hrel
        have hrg := bestN_range xs (nthS ls q) y k
        have hxw := hx.trans hxi
        by_cases hlt : k < n
        · obtain ⟨b, o, rfl, hbl, hA⟩ := (hr.ext hxw).at (by omega)
          obtain ⟨hc0, hc1, hc2, hc3, hc4⟩ := hA k hlt
          have HA := Lib.hid hA
          clear hA
          have hki : (k : Int) < n := by omega
          have hst := bestN_step xs (nthS ls q) y k
          have HST := Lib.hid hst
          clear hst
          have hbx := (Ext.refl wr).alloc (.cells #[.string (nthName xs k).text, .string (nthName xs k).lang, .int .i64 (nthName xs k).status, .int .i64 (nthName xs k).from_, .int .i64 (nthName xs k).to_] 62)
          have bx1 : (wr.alloc (.cells #[.string (nthName xs k).text, .string (nthName xs k).lang, .int .i64 (nthName xs k).status, .int .i64 (nthName xs k).from_, .int .i64 (nthName xs k).to_] 62)).cell? ⟨wr.heap.size, 1, none⟩ = some (Value.string (nthName xs k).lang) := box_keptG (Ext.refl _) 1
          have bx2 : (wr.alloc (.cells #[.string (nthName xs k).text, .string (nthName xs k).lang, .int .i64 (nthName xs k).status, .int .i64 (nthName xs k).from_, .int .i64 (nthName xs k).to_] 62)).cell? ⟨wr.heap.size, 2, none⟩ = some (Value.int .i64 (nthName xs k).status) := box_keptG (Ext.refl _) 2
          have bx3 : (wr.alloc (.cells #[.string (nthName xs k).text, .string (nthName xs k).lang, .int .i64 (nthName xs k).status, .int .i64 (nthName xs k).from_, .int .i64 (nthName xs k).to_] 62)).cell? ⟨wr.heap.size, 3, none⟩ = some (Value.int .i64 (nthName xs k).from_) := box_keptG (Ext.refl _) 3
          have bx4 : (wr.alloc (.cells #[.string (nthName xs k).text, .string (nthName xs k).lang, .int .i64 (nthName xs k).status, .int .i64 (nthName xs k).from_, .int .i64 (nthName xs k).to_] 62)).cell? ⟨wr.heap.size, 4, none⟩ = some (Value.int .i64 (nthName xs k).to_) := box_keptG (Ext.refl _) 4
          by_cases hl : (nthName xs k).lang = nthS ls q
          · have hbe := beqS_eq hl
            have HL := Lib.hid hl
            clear hl
            have hbs : wr.heap.size < (wr.alloc (.cells #[.string (nthName xs k).text, .string (nthName xs k).lang, .int .i64 (nthName xs k).status, .int .i64 (nthName xs k).from_, .int .i64 (nthName xs k).to_] 62)).heap.size := by simp
            cases hin : hasY xs y k
            · have hsame : bestN xs (nthS ls q) y (k + 1) = bestN xs (nthS ls q) y k := by rw [HST.out, hin]; rfl
              have HS := Lib.hid hsame
              have HI := Lib.hid hin
              clear hsame hin
              go_wp2
              refine wp_region_any (by kernel_rfl) ?_
              try (change wpAny _ _ _ _ _ _ _ (World.drew _))
              refine takeYes 0 25 ?v1 rfl rfl (by kernel_rfl) (by kernel_rfl) (by kernel_rfl) (fun _ _ _ _ h => h) (by kernel_rfl) ?y1 ?r1
              case y1 => intro w; go_simp; first | done | with_reducible rfl
              simp only [Act.put, List.setIfInBounds_toArray, List.set_cons_zero, List.set_cons_succ]
              refine takeYes 2 27 ?v2 rfl rfl (by kernel_rfl) (by kernel_rfl) (by kernel_rfl) (fun _ _ _ _ h => h) (by kernel_rfl) ?y2 ?r2
              case y2 => intro w; go_simp; first | done | with_reducible rfl
              simp only [Act.put, List.setIfInBounds_toArray, List.set_cons_zero, List.set_cons_succ]
              refine wpAny_ready (rs := [1]) (by kernel_rfl) (by simp) ?_
              refine AllReady.cons rfl (fun K hK => ?_) AllReady.nil
              go_simp
              refine hK _ _ ?_
              clear hK K
              try simp only [Act.put, List.setIfInBounds_toArray, List.set_cons_zero, List.set_cons_succ]
              refine takeYes 3 28 ?v3 rfl rfl (by kernel_rfl) (by kernel_rfl) (by kernel_rfl) (fun _ _ _ _ h => h) (by kernel_rfl) ?y3 ?r3
              case y3 => intro w; go_simp; first | done | with_reducible rfl
              simp only [Act.put, List.setIfInBounds_toArray, List.set_cons_zero, List.set_cons_succ]
              refine takeYes 4 29 ?v4 rfl rfl (by kernel_rfl) (by kernel_rfl) (by kernel_rfl) (fun _ _ _ _ h => h) (by kernel_rfl) ?y4 ?r4
              case y4 => intro w; go_simp; first | done | with_reducible rfl
              simp only [Act.put, List.setIfInBounds_toArray, List.set_cons_zero, List.set_cons_succ]
              refine takeYes 5 30 ?v5 rfl rfl (by kernel_rfl) (by kernel_rfl) (by kernel_rfl) (fun _ _ _ _ h => h) (by kernel_rfl) ?y5 ?r5
              case y5 => intro w; go_simp; first | done | with_reducible rfl
              simp only [Act.put, List.setIfInBounds_toArray, List.set_cons_zero, List.set_cons_succ]
              refine takeYes 7 32 ?v6 rfl rfl (by kernel_rfl) (by kernel_rfl) (by kernel_rfl) (fun _ _ _ _ h => h) (by kernel_rfl) ?y6 ?r6
              case y6 => intro w; go_simp; first | done | with_reducible rfl
              simp only [Act.put, List.setIfInBounds_toArray, List.set_cons_zero, List.set_cons_succ]
              refine wpAny_ready (rs := [6]) (by kernel_rfl) (by simp) ?_
              refine AllReady.cons rfl (fun K hK => ?_) AllReady.nil
              go_simp
              refine hK _ _ ?_
              clear hK K
              try simp only [Act.put, List.setIfInBounds_toArray, List.set_cons_zero, List.set_cons_succ]
              refine wpAny_ready (rs := [8]) (by kernel_rfl) (by simp) ?_
              refine AllReady.cons rfl (fun K hK => ?_) AllReady.nil
              go_simp
              refine (has_any ⟨(nthName xs k).from_, (nthName xs k).to_⟩ y _).mono ?_
              rintro e w3 ⟨rfl, hx3⟩
              rw [show inB y (nthName xs k).from_ (nthName xs k).to_ = false from HI.out]
              have z1 := (Below.cell ((Ext.refl _).drew.trans hx3) (p := ⟨wr.heap.size, 1, none⟩) hbs).trans bx1
              have z2 := (Below.cell ((Ext.refl _).drew.trans hx3) (p := ⟨wr.heap.size, 2, none⟩) hbs).trans bx2
              have z3 := (Below.cell ((Ext.refl _).drew.trans hx3) (p := ⟨wr.heap.size, 3, none⟩) hbs).trans bx3
              have z4 := (Below.cell ((Ext.refl _).drew.trans hx3) (p := ⟨wr.heap.size, 4, none⟩) hbs).trans bx4
              go_wp2_with fail
              try simp only [Act.put, List.setIfInBounds_toArray, List.set_cons_zero, List.set_cons_succ]
              refine takeYes 9 34 ?v7 rfl rfl (by kernel_rfl) (by kernel_rfl) (by kernel_rfl) (fun _ _ _ _ h => h) (by kernel_rfl) ?y7 ?r7
              case y7 => intro w; go_simp; first | done | with_reducible rfl
              simp only [Act.put, List.setIfInBounds_toArray, List.set_cons_zero, List.set_cons_succ]
              refine takeYes 10 35 ?v8 rfl rfl (by kernel_rfl) (by kernel_rfl) (by kernel_rfl) (fun _ _ _ _ h => h) (by kernel_rfl) ?y8 ?r8
              case y8 => intro w; go_simp; first | done | with_reducible rfl
              simp only [Act.put, List.setIfInBounds_toArray, List.set_cons_zero, List.set_cons_succ]
              refine takeNo 11 36 rfl rfl (by kernel_rfl) (by kernel_rfl) (by kernel_rfl) (fun _ _ _ _ h => h) (by kernel_rfl) ?_
              simp only [Act.put, List.setIfInBounds_toArray, List.set_cons_zero, List.set_cons_succ]
              refine takeNo 12 37 rfl rfl (by kernel_rfl) (by kernel_rfl) (by kernel_rfl) (fun _ _ _ _ h => h) (by kernel_rfl) ?_
              simp only [Act.put, List.setIfInBounds_toArray, List.set_cons_zero, List.set_cons_succ]
              refine takeNo 13 38 rfl rfl (by kernel_rfl) (by kernel_rfl) (by kernel_rfl) (fun _ _ _ _ h => h) (by kernel_rfl) ?_
              simp only [Act.put, List.setIfInBounds_toArray, List.set_cons_zero, List.set_cons_succ]
              refine takeNo 14 39 rfl rfl (by kernel_rfl) (by kernel_rfl) (by kernel_rfl) (fun _ _ _ _ h => h) (by kernel_rfl) ?_
              simp only [Act.put, List.setIfInBounds_toArray, List.set_cons_zero, List.set_cons_succ]
              refine takeNo 15 40 rfl rfl (by kernel_rfl) (by kernel_rfl) (by kernel_rfl) (fun _ _ _ _ h => h) (by kernel_rfl) ?_
              simp only [Act.put, List.setIfInBounds_toArray, List.set_cons_zero, List.set_cons_succ]
              refine takeNo 16 41 rfl rfl (by kernel_rfl) (by kernel_rfl) (by kernel_rfl) (fun _ _ _ _ h => h) (by kernel_rfl) ?_
              simp only [Act.put, List.setIfInBounds_toArray, List.set_cons_zero, List.set_cons_succ]
              refine takeNo 17 42 rfl rfl (by kernel_rfl) (by kernel_rfl) (by kernel_rfl) (fun _ _ _ _ h => h) (by kernel_rfl) ?_
              simp only [Act.put, List.setIfInBounds_toArray, List.set_cons_zero, List.set_cons_succ]
              refine takeNo 18 43 rfl rfl (by kernel_rfl) (by kernel_rfl) (by kernel_rfl) (fun _ _ _ _ h => h) (by kernel_rfl) ?_
              simp only [Act.put, List.setIfInBounds_toArray, List.set_cons_zero, List.set_cons_succ]
              refine takeNo 19 44 rfl rfl (by kernel_rfl) (by kernel_rfl) (by kernel_rfl) (fun _ _ _ _ h => h) (by kernel_rfl) ?_
              simp only [Act.put, List.setIfInBounds_toArray, List.set_cons_zero, List.set_cons_succ]
              refine takeNo 20 45 rfl rfl (by kernel_rfl) (by kernel_rfl) (by kernel_rfl) (fun _ _ _ _ h => h) (by kernel_rfl) ?_
              simp only [Act.put, List.setIfInBounds_toArray, List.set_cons_zero, List.set_cons_succ]
              refine takeNo 21 46 rfl rfl (by kernel_rfl) (by kernel_rfl) (by kernel_rfl) (fun _ _ _ _ h => h) (by kernel_rfl) ?_
              simp only [Act.put, List.setIfInBounds_toArray, List.set_cons_zero, List.set_cons_succ]
              refine takeNo 22 47 rfl rfl (by kernel_rfl) (by kernel_rfl) (by kernel_rfl) (fun _ _ _ _ h => h) (by kernel_rfl) ?_
              simp only [Act.put, List.setIfInBounds_toArray, List.set_cons_zero, List.set_cons_succ]
              refine takeYes 23 48 ?v9 rfl rfl (by kernel_rfl) (by kernel_rfl) (by kernel_rfl) (fun _ _ _ _ h => h) (by kernel_rfl) ?y9 ?r9
              case y9 => intro w; go_simp; first | done | with_reducible rfl
              simp only [Act.put, List.setIfInBounds_toArray, List.set_cons_zero, List.set_cons_succ]
              refine wpAny_done (by kernel_rfl) ?_ _
              have hxx := hxi.trans (hbx.trans ((Ext.refl _).drew.trans hx3))
              have HX := Lib.hid hxx
              clear hxx
              go_wp2
              go_roundw
              case rel => exact ⟨k + 1, by omega, by go_num, by rw [HS.out], HX.out⟩
              case measure => simp [intOf]; omega
            · have HI := Lib.hid hin
              by_cases hneg : bestN xs (nthS ls q) y k < 0
              · have hsame : bestN xs (nthS ls q) y (k + 1) = (k : Int) := by rw [HST.out, hin, if_pos rfl, bestS_new HL.out hneg]
                have HS := Lib.hid hsame
                clear hsame hin
                go_wp2
                refine wp_region_any (by kernel_rfl) ?_
                try (change wpAny _ _ _ _ _ _ _ (World.drew _))
                refine takeYes 0 25 ?v10 rfl rfl (by kernel_rfl) (by kernel_rfl) (by kernel_rfl) (fun _ _ _ _ h => h) (by kernel_rfl) ?y10 ?r10
                case y10 => intro w; go_simp; first | done | with_reducible rfl
                simp only [Act.put, List.setIfInBounds_toArray, List.set_cons_zero, List.set_cons_succ]
                refine takeYes 2 27 ?v11 rfl rfl (by kernel_rfl) (by kernel_rfl) (by kernel_rfl) (fun _ _ _ _ h => h) (by kernel_rfl) ?y11 ?r11
                case y11 => intro w; go_simp; first | done | with_reducible rfl
                simp only [Act.put, List.setIfInBounds_toArray, List.set_cons_zero, List.set_cons_succ]
                refine wpAny_ready (rs := [1]) (by kernel_rfl) (by simp) ?_
                refine AllReady.cons rfl (fun K hK => ?_) AllReady.nil
                go_simp
                refine hK _ _ ?_
                clear hK K
                try simp only [Act.put, List.setIfInBounds_toArray, List.set_cons_zero, List.set_cons_succ]
                refine takeYes 3 28 ?v12 rfl rfl (by kernel_rfl) (by kernel_rfl) (by kernel_rfl) (fun _ _ _ _ h => h) (by kernel_rfl) ?y12 ?r12
                case y12 => intro w; go_simp; first | done | with_reducible rfl
                simp only [Act.put, List.setIfInBounds_toArray, List.set_cons_zero, List.set_cons_succ]
                refine takeYes 4 29 ?v13 rfl rfl (by kernel_rfl) (by kernel_rfl) (by kernel_rfl) (fun _ _ _ _ h => h) (by kernel_rfl) ?y13 ?r13
                case y13 => intro w; go_simp; first | done | with_reducible rfl
                simp only [Act.put, List.setIfInBounds_toArray, List.set_cons_zero, List.set_cons_succ]
                refine takeYes 5 30 ?v14 rfl rfl (by kernel_rfl) (by kernel_rfl) (by kernel_rfl) (fun _ _ _ _ h => h) (by kernel_rfl) ?y14 ?r14
                case y14 => intro w; go_simp; first | done | with_reducible rfl
                simp only [Act.put, List.setIfInBounds_toArray, List.set_cons_zero, List.set_cons_succ]
                refine takeYes 7 32 ?v15 rfl rfl (by kernel_rfl) (by kernel_rfl) (by kernel_rfl) (fun _ _ _ _ h => h) (by kernel_rfl) ?y15 ?r15
                case y15 => intro w; go_simp; first | done | with_reducible rfl
                simp only [Act.put, List.setIfInBounds_toArray, List.set_cons_zero, List.set_cons_succ]
                refine wpAny_ready (rs := [6]) (by kernel_rfl) (by simp) ?_
                refine AllReady.cons rfl (fun K hK => ?_) AllReady.nil
                go_simp
                refine hK _ _ ?_
                clear hK K
                try simp only [Act.put, List.setIfInBounds_toArray, List.set_cons_zero, List.set_cons_succ]
                refine wpAny_ready (rs := [8]) (by kernel_rfl) (by simp) ?_
                refine AllReady.cons rfl (fun K hK => ?_) AllReady.nil
                go_simp
                refine (has_any ⟨(nthName xs k).from_, (nthName xs k).to_⟩ y _).mono ?_
                rintro e w3 ⟨rfl, hx3⟩
                rw [show inB y (nthName xs k).from_ (nthName xs k).to_ = true from HI.out]
                have z1 := (Below.cell ((Ext.refl _).drew.trans hx3) (p := ⟨wr.heap.size, 1, none⟩) hbs).trans bx1
                have z2 := (Below.cell ((Ext.refl _).drew.trans hx3) (p := ⟨wr.heap.size, 2, none⟩) hbs).trans bx2
                have z3 := (Below.cell ((Ext.refl _).drew.trans hx3) (p := ⟨wr.heap.size, 3, none⟩) hbs).trans bx3
                have z4 := (Below.cell ((Ext.refl _).drew.trans hx3) (p := ⟨wr.heap.size, 4, none⟩) hbs).trans bx4
                go_wp2_with fail
                try simp only [Act.put, List.setIfInBounds_toArray, List.set_cons_zero, List.set_cons_succ]
                refine takeYes 9 34 ?v16 rfl rfl (by kernel_rfl) (by kernel_rfl) (by kernel_rfl) (fun _ _ _ _ h => h) (by kernel_rfl) ?y16 ?r16
                case y16 => intro w; go_simp; first | done | with_reducible rfl
                simp only [Act.put, List.setIfInBounds_toArray, List.set_cons_zero, List.set_cons_succ]
                refine takeYes 10 35 ?v17 rfl rfl (by kernel_rfl) (by kernel_rfl) (by kernel_rfl) (fun _ _ _ _ h => h) (by kernel_rfl) ?y17 ?r17
                case y17 => intro w; go_simp; first | done | with_reducible rfl
                simp only [Act.put, List.setIfInBounds_toArray, List.set_cons_zero, List.set_cons_succ]
                refine takeYes 11 36 ?v18 rfl rfl (by kernel_rfl) (by kernel_rfl) (by kernel_rfl) (fun _ _ _ _ h => h) (by kernel_rfl) ?y18 ?r18
                case y18 => intro w; go_simp; first | done | with_reducible rfl
                simp only [Act.put, List.setIfInBounds_toArray, List.set_cons_zero, List.set_cons_succ]
                refine takeYes 12 37 ?v19 rfl rfl (by kernel_rfl) (by kernel_rfl) (by kernel_rfl) (fun _ _ _ _ h => h) (by kernel_rfl) ?y19 ?r19
                case y19 => intro w; go_simp; first | done | with_reducible rfl
                simp only [Act.put, List.setIfInBounds_toArray, List.set_cons_zero, List.set_cons_succ]
                refine takeYes 13 38 ?v20 rfl rfl (by kernel_rfl) (by kernel_rfl) (by kernel_rfl) (fun _ _ _ _ h => h) (by kernel_rfl) ?y20 ?r20
                case y20 => intro w; go_simp; first | done | with_reducible rfl
                simp only [Act.put, List.setIfInBounds_toArray, List.set_cons_zero, List.set_cons_succ]
                refine takeNo 14 39 rfl rfl (by kernel_rfl) (by kernel_rfl) (by kernel_rfl) (fun _ _ _ _ h => h) (by kernel_rfl) ?_
                simp only [Act.put, List.setIfInBounds_toArray, List.set_cons_zero, List.set_cons_succ]
                refine takeNo 15 40 rfl rfl (by kernel_rfl) (by kernel_rfl) (by kernel_rfl) (fun _ _ _ _ h => h) (by kernel_rfl) ?_
                simp only [Act.put, List.setIfInBounds_toArray, List.set_cons_zero, List.set_cons_succ]
                refine takeNo 16 41 rfl rfl (by kernel_rfl) (by kernel_rfl) (by kernel_rfl) (fun _ _ _ _ h => h) (by kernel_rfl) ?_
                simp only [Act.put, List.setIfInBounds_toArray, List.set_cons_zero, List.set_cons_succ]
                refine takeNo 17 42 rfl rfl (by kernel_rfl) (by kernel_rfl) (by kernel_rfl) (fun _ _ _ _ h => h) (by kernel_rfl) ?_
                simp only [Act.put, List.setIfInBounds_toArray, List.set_cons_zero, List.set_cons_succ]
                refine takeNo 18 43 rfl rfl (by kernel_rfl) (by kernel_rfl) (by kernel_rfl) (fun _ _ _ _ h => h) (by kernel_rfl) ?_
                simp only [Act.put, List.setIfInBounds_toArray, List.set_cons_zero, List.set_cons_succ]
                refine takeNo 19 44 rfl rfl (by kernel_rfl) (by kernel_rfl) (by kernel_rfl) (fun _ _ _ _ h => h) (by kernel_rfl) ?_
                simp only [Act.put, List.setIfInBounds_toArray, List.set_cons_zero, List.set_cons_succ]
                refine takeNo 20 45 rfl rfl (by kernel_rfl) (by kernel_rfl) (by kernel_rfl) (fun _ _ _ _ h => h) (by kernel_rfl) ?_
                simp only [Act.put, List.setIfInBounds_toArray, List.set_cons_zero, List.set_cons_succ]
                refine takeNo 21 46 rfl rfl (by kernel_rfl) (by kernel_rfl) (by kernel_rfl) (fun _ _ _ _ h => h) (by kernel_rfl) ?_
                simp only [Act.put, List.setIfInBounds_toArray, List.set_cons_zero, List.set_cons_succ]
                refine takeYes 22 47 ?v21 rfl rfl (by kernel_rfl) (by kernel_rfl) (by kernel_rfl) (fun _ _ _ _ h => h) (by kernel_rfl) ?y21 ?r21
                case y21 => intro w; go_simp; first | done | with_reducible rfl
                simp only [Act.put, List.setIfInBounds_toArray, List.set_cons_zero, List.set_cons_succ]
                refine takeYes 23 48 ?v22 rfl rfl (by kernel_rfl) (by kernel_rfl) (by kernel_rfl) (fun _ _ _ _ h => h) (by kernel_rfl) ?y22 ?r22
                case y22 => intro w; go_simp; first | done | with_reducible rfl
                simp only [Act.put, List.setIfInBounds_toArray, List.set_cons_zero, List.set_cons_succ]
                refine wpAny_done (by kernel_rfl) ?_ _
                have hxx := hxi.trans (hbx.trans ((Ext.refl _).drew.trans hx3))
                have HX := Lib.hid hxx
                clear hxx
                go_wp2
                go_roundw
                case rel => exact ⟨k + 1, by omega, by go_num, by rw [HS.out], HX.out⟩
                case measure => simp [intOf]; omega
              · obtain ⟨bb, hbb⟩ := Int.eq_ofNat_of_zero_le (show 0 ≤ bestN xs (nthS ls q) y k by omega)
                rw [hbb] at hrg hneg ⊢
                have hbbn : bb < n := by omega
                obtain ⟨_, _, g2, _, _⟩ := HA.out bb hbbn
                have g2w := (Below.cell hbx (p := ⟨b, o + bb * 5 + 2, none⟩) hbl).trans g2
                have hbl2x := Nat.lt_of_lt_of_le hbl hbx.size
                have hbi : (bb : Int) < n := by omega
                have hb0 : (0 : Int) ≤ bb := by omega
                by_cases hlt2 : (nthName xs k).status < (nthName xs bb).status
                · have hsame : bestN xs (nthS ls q) y (k + 1) = (k : Int) := by rw [HST.out, hin, if_pos rfl, hbb]; exact bestS_more HL.out hlt2
                  have HS := Lib.hid hsame
                  clear hsame hin hbb
                  go_wp2
                  refine wp_region_any (by kernel_rfl) ?_
                  try (change wpAny _ _ _ _ _ _ _ (World.drew _))
                  refine takeYes 0 25 ?v23 rfl rfl (by kernel_rfl) (by kernel_rfl) (by kernel_rfl) (fun _ _ _ _ h => h) (by kernel_rfl) ?y23 ?r23
                  case y23 => intro w; go_simp; first | done | with_reducible rfl
                  simp only [Act.put, List.setIfInBounds_toArray, List.set_cons_zero, List.set_cons_succ]
                  refine takeYes 2 27 ?v24 rfl rfl (by kernel_rfl) (by kernel_rfl) (by kernel_rfl) (fun _ _ _ _ h => h) (by kernel_rfl) ?y24 ?r24
                  case y24 => intro w; go_simp; first | done | with_reducible rfl
                  simp only [Act.put, List.setIfInBounds_toArray, List.set_cons_zero, List.set_cons_succ]
                  refine wpAny_ready (rs := [1]) (by kernel_rfl) (by simp) ?_
                  refine AllReady.cons rfl (fun K hK => ?_) AllReady.nil
                  go_simp
                  refine hK _ _ ?_
                  clear hK K
                  try simp only [Act.put, List.setIfInBounds_toArray, List.set_cons_zero, List.set_cons_succ]
                  refine takeYes 3 28 ?v25 rfl rfl (by kernel_rfl) (by kernel_rfl) (by kernel_rfl) (fun _ _ _ _ h => h) (by kernel_rfl) ?y25 ?r25
                  case y25 => intro w; go_simp; first | done | with_reducible rfl
                  simp only [Act.put, List.setIfInBounds_toArray, List.set_cons_zero, List.set_cons_succ]
                  refine takeYes 4 29 ?v26 rfl rfl (by kernel_rfl) (by kernel_rfl) (by kernel_rfl) (fun _ _ _ _ h => h) (by kernel_rfl) ?y26 ?r26
                  case y26 => intro w; go_simp; first | done | with_reducible rfl
                  simp only [Act.put, List.setIfInBounds_toArray, List.set_cons_zero, List.set_cons_succ]
                  refine takeYes 5 30 ?v27 rfl rfl (by kernel_rfl) (by kernel_rfl) (by kernel_rfl) (fun _ _ _ _ h => h) (by kernel_rfl) ?y27 ?r27
                  case y27 => intro w; go_simp; first | done | with_reducible rfl
                  simp only [Act.put, List.setIfInBounds_toArray, List.set_cons_zero, List.set_cons_succ]
                  refine takeYes 7 32 ?v28 rfl rfl (by kernel_rfl) (by kernel_rfl) (by kernel_rfl) (fun _ _ _ _ h => h) (by kernel_rfl) ?y28 ?r28
                  case y28 => intro w; go_simp; first | done | with_reducible rfl
                  simp only [Act.put, List.setIfInBounds_toArray, List.set_cons_zero, List.set_cons_succ]
                  refine wpAny_ready (rs := [6]) (by kernel_rfl) (by simp) ?_
                  refine AllReady.cons rfl (fun K hK => ?_) AllReady.nil
                  go_simp
                  refine hK _ _ ?_
                  clear hK K
                  try simp only [Act.put, List.setIfInBounds_toArray, List.set_cons_zero, List.set_cons_succ]
                  refine wpAny_ready (rs := [8]) (by kernel_rfl) (by simp) ?_
                  refine AllReady.cons rfl (fun K hK => ?_) AllReady.nil
                  go_simp
                  refine (has_any ⟨(nthName xs k).from_, (nthName xs k).to_⟩ y _).mono ?_
                  rintro e w3 ⟨rfl, hx3⟩
                  rw [show inB y (nthName xs k).from_ (nthName xs k).to_ = true from HI.out]
                  have z1 := (Below.cell ((Ext.refl _).drew.trans hx3) (p := ⟨wr.heap.size, 1, none⟩) hbs).trans bx1
                  have z2 := (Below.cell ((Ext.refl _).drew.trans hx3) (p := ⟨wr.heap.size, 2, none⟩) hbs).trans bx2
                  have z3 := (Below.cell ((Ext.refl _).drew.trans hx3) (p := ⟨wr.heap.size, 3, none⟩) hbs).trans bx3
                  have z4 := (Below.cell ((Ext.refl _).drew.trans hx3) (p := ⟨wr.heap.size, 4, none⟩) hbs).trans bx4
                  have z5 := (Below.cell ((Ext.refl _).drew.trans hx3) (p := ⟨b, o + bb * 5 + 2, none⟩) hbl2x).trans g2w
                  go_wp2_with fail
                  try simp only [Act.put, List.setIfInBounds_toArray, List.set_cons_zero, List.set_cons_succ]
                  refine takeYes 9 34 ?v29 rfl rfl (by kernel_rfl) (by kernel_rfl) (by kernel_rfl) (fun _ _ _ _ h => h) (by kernel_rfl) ?y29 ?r29
                  case y29 => intro w; go_simp; first | done | with_reducible rfl
                  simp only [Act.put, List.setIfInBounds_toArray, List.set_cons_zero, List.set_cons_succ]
                  refine takeYes 10 35 ?v30 rfl rfl (by kernel_rfl) (by kernel_rfl) (by kernel_rfl) (fun _ _ _ _ h => h) (by kernel_rfl) ?y30 ?r30
                  case y30 => intro w; go_simp; first | done | with_reducible rfl
                  simp only [Act.put, List.setIfInBounds_toArray, List.set_cons_zero, List.set_cons_succ]
                  refine takeYes 11 36 ?v31 rfl rfl (by kernel_rfl) (by kernel_rfl) (by kernel_rfl) (fun _ _ _ _ h => h) (by kernel_rfl) ?y31 ?r31
                  case y31 => intro w; go_simp; first | done | with_reducible rfl
                  simp only [Act.put, List.setIfInBounds_toArray, List.set_cons_zero, List.set_cons_succ]
                  refine takeYes 12 37 ?v32 rfl rfl (by kernel_rfl) (by kernel_rfl) (by kernel_rfl) (fun _ _ _ _ h => h) (by kernel_rfl) ?y32 ?r32
                  case y32 => intro w; go_simp; first | done | with_reducible rfl
                  simp only [Act.put, List.setIfInBounds_toArray, List.set_cons_zero, List.set_cons_succ]
                  refine takeYes 13 38 ?v33 rfl rfl (by kernel_rfl) (by kernel_rfl) (by kernel_rfl) (fun _ _ _ _ h => h) (by kernel_rfl) ?y33 ?r33
                  case y33 => intro w; go_simp; first | done | with_reducible rfl
                  simp only [Act.put, List.setIfInBounds_toArray, List.set_cons_zero, List.set_cons_succ]
                  refine takeYes 14 39 ?v34 rfl rfl (by kernel_rfl) (by kernel_rfl) (by kernel_rfl) (fun _ _ _ _ h => h) (by kernel_rfl) ?y34 ?r34
                  case y34 => intro w; go_simp; first | done | with_reducible rfl
                  simp only [Act.put, List.setIfInBounds_toArray, List.set_cons_zero, List.set_cons_succ]
                  refine takeYes 16 41 ?v35 rfl rfl (by kernel_rfl) (by kernel_rfl) (by kernel_rfl) (fun _ _ _ _ h => h) (by kernel_rfl) ?y35 ?r35
                  case y35 => intro w; go_simp; first | done | with_reducible rfl
                  simp only [Act.put, List.setIfInBounds_toArray, List.set_cons_zero, List.set_cons_succ]
                  refine takeYes 17 42 ?v36 rfl rfl (by kernel_rfl) (by kernel_rfl) (by kernel_rfl) (fun _ _ _ _ h => h) (by kernel_rfl) ?y36 ?r36
                  case y36 => intro w; go_simp; first | done | with_reducible rfl
                  simp only [Act.put, List.setIfInBounds_toArray, List.set_cons_zero, List.set_cons_succ]
                  refine takeYes 18 43 ?v37 rfl rfl (by kernel_rfl) (by kernel_rfl) (by kernel_rfl) (fun _ _ _ _ h => h) (by kernel_rfl) ?y37 ?r37
                  case y37 => intro w; go_simp; first | done | with_reducible rfl
                  simp only [Act.put, List.setIfInBounds_toArray, List.set_cons_zero, List.set_cons_succ]
                  refine takeYes 19 44 ?v38 rfl rfl (by kernel_rfl) (by kernel_rfl) (by kernel_rfl) (fun _ _ _ _ h => h) (by kernel_rfl) ?y38 ?r38
                  case y38 => intro w; go_simp; first | done | with_reducible rfl
                  simp only [Act.put, List.setIfInBounds_toArray, List.set_cons_zero, List.set_cons_succ]
                  refine wpAny_ready (rs := [15, 20]) (by kernel_rfl) (by simp) ?_
                  refine AllReady.cons rfl (fun K hK => ?_) (AllReady.cons rfl (fun K hK => ?_) AllReady.nil)
                  · go_simp
                    refine hK _ _ ?_
                    clear hK K
                    try simp only [Act.put, List.setIfInBounds_toArray, List.set_cons_zero, List.set_cons_succ]
                    refine wpAny_ready (rs := [20]) (by kernel_rfl) (by simp) ?_
                    refine AllReady.cons rfl (fun K hK => ?_) AllReady.nil
                    go_simp
                    refine hK _ _ ?_
                    clear hK K
                    try simp only [Act.put, List.setIfInBounds_toArray, List.set_cons_zero, List.set_cons_succ]
                    refine takeYes 21 46 ?v39 rfl rfl (by kernel_rfl) (by kernel_rfl) (by kernel_rfl) (fun _ _ _ _ h => h) (by kernel_rfl) ?y39 ?r39
                    case y39 => intro w; go_simp; first | done | with_reducible rfl
                    simp only [Act.put, List.setIfInBounds_toArray, List.set_cons_zero, List.set_cons_succ]
                    refine takeYes 22 47 ?v40 rfl rfl (by kernel_rfl) (by kernel_rfl) (by kernel_rfl) (fun _ _ _ _ h => h) (by kernel_rfl) ?y40 ?r40
                    case y40 => intro w; go_simp; first | done | with_reducible rfl
                    simp only [Act.put, List.setIfInBounds_toArray, List.set_cons_zero, List.set_cons_succ]
                    refine takeYes 23 48 ?v41 rfl rfl (by kernel_rfl) (by kernel_rfl) (by kernel_rfl) (fun _ _ _ _ h => h) (by kernel_rfl) ?y41 ?r41
                    case y41 => intro w; go_simp; first | done | with_reducible rfl
                    simp only [Act.put, List.setIfInBounds_toArray, List.set_cons_zero, List.set_cons_succ]
                    refine wpAny_done (by kernel_rfl) ?_ _
                    have hxx := hxi.trans (hbx.trans ((Ext.refl _).drew.trans hx3))
                    have HX := Lib.hid hxx
                    clear hxx
                    go_wp2
                    go_roundw
                    case rel => exact ⟨k + 1, by omega, by go_num, by rw [HS.out], HX.out⟩
                    case measure => simp [intOf]; omega
                  · go_simp
                    refine hK _ _ ?_
                    clear hK K
                    try simp only [Act.put, List.setIfInBounds_toArray, List.set_cons_zero, List.set_cons_succ]
                    refine wpAny_ready (rs := [15]) (by kernel_rfl) (by simp) ?_
                    refine AllReady.cons rfl (fun K hK => ?_) AllReady.nil
                    go_simp
                    refine hK _ _ ?_
                    clear hK K
                    try simp only [Act.put, List.setIfInBounds_toArray, List.set_cons_zero, List.set_cons_succ]
                    refine takeYes 21 46 ?v42 rfl rfl (by kernel_rfl) (by kernel_rfl) (by kernel_rfl) (fun _ _ _ _ h => h) (by kernel_rfl) ?y42 ?r42
                    case y42 => intro w; go_simp; first | done | with_reducible rfl
                    simp only [Act.put, List.setIfInBounds_toArray, List.set_cons_zero, List.set_cons_succ]
                    refine takeYes 22 47 ?v43 rfl rfl (by kernel_rfl) (by kernel_rfl) (by kernel_rfl) (fun _ _ _ _ h => h) (by kernel_rfl) ?y43 ?r43
                    case y43 => intro w; go_simp; first | done | with_reducible rfl
                    simp only [Act.put, List.setIfInBounds_toArray, List.set_cons_zero, List.set_cons_succ]
                    refine takeYes 23 48 ?v44 rfl rfl (by kernel_rfl) (by kernel_rfl) (by kernel_rfl) (fun _ _ _ _ h => h) (by kernel_rfl) ?y44 ?r44
                    case y44 => intro w; go_simp; first | done | with_reducible rfl
                    simp only [Act.put, List.setIfInBounds_toArray, List.set_cons_zero, List.set_cons_succ]
                    refine wpAny_done (by kernel_rfl) ?_ _
                    have hxx := hxi.trans (hbx.trans ((Ext.refl _).drew.trans hx3))
                    have HX := Lib.hid hxx
                    clear hxx
                    go_wp2
                    go_roundw
                    case rel => exact ⟨k + 1, by omega, by go_num, by rw [HS.out], HX.out⟩
                    case measure => simp [intOf]; omega
                · have hsame : bestN xs (nthS ls q) y (k + 1) = (bb : Int) := by rw [HST.out, hin, if_pos rfl, hbb]; exact bestS_less hlt2
                  have HS := Lib.hid hsame
                  clear hsame hin hbb
                  go_wp2
                  refine wp_region_any (by kernel_rfl) ?_
                  try (change wpAny _ _ _ _ _ _ _ (World.drew _))
                  refine takeYes 0 25 ?v45 rfl rfl (by kernel_rfl) (by kernel_rfl) (by kernel_rfl) (fun _ _ _ _ h => h) (by kernel_rfl) ?y45 ?r45
                  case y45 => intro w; go_simp; first | done | with_reducible rfl
                  simp only [Act.put, List.setIfInBounds_toArray, List.set_cons_zero, List.set_cons_succ]
                  refine takeYes 2 27 ?v46 rfl rfl (by kernel_rfl) (by kernel_rfl) (by kernel_rfl) (fun _ _ _ _ h => h) (by kernel_rfl) ?y46 ?r46
                  case y46 => intro w; go_simp; first | done | with_reducible rfl
                  simp only [Act.put, List.setIfInBounds_toArray, List.set_cons_zero, List.set_cons_succ]
                  refine wpAny_ready (rs := [1]) (by kernel_rfl) (by simp) ?_
                  refine AllReady.cons rfl (fun K hK => ?_) AllReady.nil
                  go_simp
                  refine hK _ _ ?_
                  clear hK K
                  try simp only [Act.put, List.setIfInBounds_toArray, List.set_cons_zero, List.set_cons_succ]
                  refine takeYes 3 28 ?v47 rfl rfl (by kernel_rfl) (by kernel_rfl) (by kernel_rfl) (fun _ _ _ _ h => h) (by kernel_rfl) ?y47 ?r47
                  case y47 => intro w; go_simp; first | done | with_reducible rfl
                  simp only [Act.put, List.setIfInBounds_toArray, List.set_cons_zero, List.set_cons_succ]
                  refine takeYes 4 29 ?v48 rfl rfl (by kernel_rfl) (by kernel_rfl) (by kernel_rfl) (fun _ _ _ _ h => h) (by kernel_rfl) ?y48 ?r48
                  case y48 => intro w; go_simp; first | done | with_reducible rfl
                  simp only [Act.put, List.setIfInBounds_toArray, List.set_cons_zero, List.set_cons_succ]
                  refine takeYes 5 30 ?v49 rfl rfl (by kernel_rfl) (by kernel_rfl) (by kernel_rfl) (fun _ _ _ _ h => h) (by kernel_rfl) ?y49 ?r49
                  case y49 => intro w; go_simp; first | done | with_reducible rfl
                  simp only [Act.put, List.setIfInBounds_toArray, List.set_cons_zero, List.set_cons_succ]
                  refine takeYes 7 32 ?v50 rfl rfl (by kernel_rfl) (by kernel_rfl) (by kernel_rfl) (fun _ _ _ _ h => h) (by kernel_rfl) ?y50 ?r50
                  case y50 => intro w; go_simp; first | done | with_reducible rfl
                  simp only [Act.put, List.setIfInBounds_toArray, List.set_cons_zero, List.set_cons_succ]
                  refine wpAny_ready (rs := [6]) (by kernel_rfl) (by simp) ?_
                  refine AllReady.cons rfl (fun K hK => ?_) AllReady.nil
                  go_simp
                  refine hK _ _ ?_
                  clear hK K
                  try simp only [Act.put, List.setIfInBounds_toArray, List.set_cons_zero, List.set_cons_succ]
                  refine wpAny_ready (rs := [8]) (by kernel_rfl) (by simp) ?_
                  refine AllReady.cons rfl (fun K hK => ?_) AllReady.nil
                  go_simp
                  refine (has_any ⟨(nthName xs k).from_, (nthName xs k).to_⟩ y _).mono ?_
                  rintro e w3 ⟨rfl, hx3⟩
                  rw [show inB y (nthName xs k).from_ (nthName xs k).to_ = true from HI.out]
                  have z1 := (Below.cell ((Ext.refl _).drew.trans hx3) (p := ⟨wr.heap.size, 1, none⟩) hbs).trans bx1
                  have z2 := (Below.cell ((Ext.refl _).drew.trans hx3) (p := ⟨wr.heap.size, 2, none⟩) hbs).trans bx2
                  have z3 := (Below.cell ((Ext.refl _).drew.trans hx3) (p := ⟨wr.heap.size, 3, none⟩) hbs).trans bx3
                  have z4 := (Below.cell ((Ext.refl _).drew.trans hx3) (p := ⟨wr.heap.size, 4, none⟩) hbs).trans bx4
                  have z5 := (Below.cell ((Ext.refl _).drew.trans hx3) (p := ⟨b, o + bb * 5 + 2, none⟩) hbl2x).trans g2w
                  go_wp2_with fail
                  try simp only [Act.put, List.setIfInBounds_toArray, List.set_cons_zero, List.set_cons_succ]
                  refine takeYes 9 34 ?v51 rfl rfl (by kernel_rfl) (by kernel_rfl) (by kernel_rfl) (fun _ _ _ _ h => h) (by kernel_rfl) ?y51 ?r51
                  case y51 => intro w; go_simp; first | done | with_reducible rfl
                  simp only [Act.put, List.setIfInBounds_toArray, List.set_cons_zero, List.set_cons_succ]
                  refine takeYes 10 35 ?v52 rfl rfl (by kernel_rfl) (by kernel_rfl) (by kernel_rfl) (fun _ _ _ _ h => h) (by kernel_rfl) ?y52 ?r52
                  case y52 => intro w; go_simp; first | done | with_reducible rfl
                  simp only [Act.put, List.setIfInBounds_toArray, List.set_cons_zero, List.set_cons_succ]
                  refine takeYes 11 36 ?v53 rfl rfl (by kernel_rfl) (by kernel_rfl) (by kernel_rfl) (fun _ _ _ _ h => h) (by kernel_rfl) ?y53 ?r53
                  case y53 => intro w; go_simp; first | done | with_reducible rfl
                  simp only [Act.put, List.setIfInBounds_toArray, List.set_cons_zero, List.set_cons_succ]
                  refine takeYes 12 37 ?v54 rfl rfl (by kernel_rfl) (by kernel_rfl) (by kernel_rfl) (fun _ _ _ _ h => h) (by kernel_rfl) ?y54 ?r54
                  case y54 => intro w; go_simp; first | done | with_reducible rfl
                  simp only [Act.put, List.setIfInBounds_toArray, List.set_cons_zero, List.set_cons_succ]
                  refine takeYes 13 38 ?v55 rfl rfl (by kernel_rfl) (by kernel_rfl) (by kernel_rfl) (fun _ _ _ _ h => h) (by kernel_rfl) ?y55 ?r55
                  case y55 => intro w; go_simp; first | done | with_reducible rfl
                  simp only [Act.put, List.setIfInBounds_toArray, List.set_cons_zero, List.set_cons_succ]
                  refine takeYes 14 39 ?v56 rfl rfl (by kernel_rfl) (by kernel_rfl) (by kernel_rfl) (fun _ _ _ _ h => h) (by kernel_rfl) ?y56 ?r56
                  case y56 => intro w; go_simp; first | done | with_reducible rfl
                  simp only [Act.put, List.setIfInBounds_toArray, List.set_cons_zero, List.set_cons_succ]
                  refine takeYes 16 41 ?v57 rfl rfl (by kernel_rfl) (by kernel_rfl) (by kernel_rfl) (fun _ _ _ _ h => h) (by kernel_rfl) ?y57 ?r57
                  case y57 => intro w; go_simp; first | done | with_reducible rfl
                  simp only [Act.put, List.setIfInBounds_toArray, List.set_cons_zero, List.set_cons_succ]
                  refine takeYes 17 42 ?v58 rfl rfl (by kernel_rfl) (by kernel_rfl) (by kernel_rfl) (fun _ _ _ _ h => h) (by kernel_rfl) ?y58 ?r58
                  case y58 => intro w; go_simp; first | done | with_reducible rfl
                  simp only [Act.put, List.setIfInBounds_toArray, List.set_cons_zero, List.set_cons_succ]
                  refine takeYes 18 43 ?v59 rfl rfl (by kernel_rfl) (by kernel_rfl) (by kernel_rfl) (fun _ _ _ _ h => h) (by kernel_rfl) ?y59 ?r59
                  case y59 => intro w; go_simp; first | done | with_reducible rfl
                  simp only [Act.put, List.setIfInBounds_toArray, List.set_cons_zero, List.set_cons_succ]
                  refine takeYes 19 44 ?v60 rfl rfl (by kernel_rfl) (by kernel_rfl) (by kernel_rfl) (fun _ _ _ _ h => h) (by kernel_rfl) ?y60 ?r60
                  case y60 => intro w; go_simp; first | done | with_reducible rfl
                  simp only [Act.put, List.setIfInBounds_toArray, List.set_cons_zero, List.set_cons_succ]
                  refine wpAny_ready (rs := [15, 20]) (by kernel_rfl) (by simp) ?_
                  refine AllReady.cons rfl (fun K hK => ?_) (AllReady.cons rfl (fun K hK => ?_) AllReady.nil)
                  · go_simp
                    refine hK _ _ ?_
                    clear hK K
                    try simp only [Act.put, List.setIfInBounds_toArray, List.set_cons_zero, List.set_cons_succ]
                    refine wpAny_ready (rs := [20]) (by kernel_rfl) (by simp) ?_
                    refine AllReady.cons rfl (fun K hK => ?_) AllReady.nil
                    go_simp
                    refine hK _ _ ?_
                    clear hK K
                    try simp only [Act.put, List.setIfInBounds_toArray, List.set_cons_zero, List.set_cons_succ]
                    refine takeYes 21 46 ?v61 rfl rfl (by kernel_rfl) (by kernel_rfl) (by kernel_rfl) (fun _ _ _ _ h => h) (by kernel_rfl) ?y61 ?r61
                    case y61 => intro w; go_simp; first | done | with_reducible rfl
                    simp only [Act.put, List.setIfInBounds_toArray, List.set_cons_zero, List.set_cons_succ]
                    refine takeYes 22 47 ?v62 rfl rfl (by kernel_rfl) (by kernel_rfl) (by kernel_rfl) (fun _ _ _ _ h => h) (by kernel_rfl) ?y62 ?r62
                    case y62 => intro w; go_simp; first | done | with_reducible rfl
                    simp only [Act.put, List.setIfInBounds_toArray, List.set_cons_zero, List.set_cons_succ]
                    refine takeYes 23 48 ?v63 rfl rfl (by kernel_rfl) (by kernel_rfl) (by kernel_rfl) (fun _ _ _ _ h => h) (by kernel_rfl) ?y63 ?r63
                    case y63 => intro w; go_simp; first | done | with_reducible rfl
                    simp only [Act.put, List.setIfInBounds_toArray, List.set_cons_zero, List.set_cons_succ]
                    refine wpAny_done (by kernel_rfl) ?_ _
                    have hxx := hxi.trans (hbx.trans ((Ext.refl _).drew.trans hx3))
                    have HX := Lib.hid hxx
                    clear hxx
                    go_wp2
                    go_roundw
                    case rel => exact ⟨k + 1, by omega, by go_num, by rw [HS.out], HX.out⟩
                    case measure => simp [intOf]; omega
                  · go_simp
                    refine hK _ _ ?_
                    clear hK K
                    try simp only [Act.put, List.setIfInBounds_toArray, List.set_cons_zero, List.set_cons_succ]
                    refine wpAny_ready (rs := [15]) (by kernel_rfl) (by simp) ?_
                    refine AllReady.cons rfl (fun K hK => ?_) AllReady.nil
                    go_simp
                    refine hK _ _ ?_
                    clear hK K
                    try simp only [Act.put, List.setIfInBounds_toArray, List.set_cons_zero, List.set_cons_succ]
                    refine takeYes 21 46 ?v64 rfl rfl (by kernel_rfl) (by kernel_rfl) (by kernel_rfl) (fun _ _ _ _ h => h) (by kernel_rfl) ?y64 ?r64
                    case y64 => intro w; go_simp; first | done | with_reducible rfl
                    simp only [Act.put, List.setIfInBounds_toArray, List.set_cons_zero, List.set_cons_succ]
                    refine takeYes 22 47 ?v65 rfl rfl (by kernel_rfl) (by kernel_rfl) (by kernel_rfl) (fun _ _ _ _ h => h) (by kernel_rfl) ?y65 ?r65
                    case y65 => intro w; go_simp; first | done | with_reducible rfl
                    simp only [Act.put, List.setIfInBounds_toArray, List.set_cons_zero, List.set_cons_succ]
                    refine takeYes 23 48 ?v66 rfl rfl (by kernel_rfl) (by kernel_rfl) (by kernel_rfl) (fun _ _ _ _ h => h) (by kernel_rfl) ?y66 ?r66
                    case y66 => intro w; go_simp; first | done | with_reducible rfl
                    simp only [Act.put, List.setIfInBounds_toArray, List.set_cons_zero, List.set_cons_succ]
                    refine wpAny_done (by kernel_rfl) ?_ _
                    have hxx := hxi.trans (hbx.trans ((Ext.refl _).drew.trans hx3))
                    have HX := Lib.hid hxx
                    clear hxx
                    go_wp2
                    go_roundw
                    case rel => exact ⟨k + 1, by omega, by go_num, by rw [HS.out], HX.out⟩
                    case measure => simp [intOf]; omega
          · have hbe := beqS_ne hl
            have HL := Lib.hid hl
            clear hl
            have hsame : bestN xs (nthS ls q) y (k + 1) = bestN xs (nthS ls q) y k := by
              rw [HST.out]; split
              · exact bestS_lang HL.out
              · rfl
            have HS := Lib.hid hsame
            clear hsame
            go_wp2
            go_quiet (fail)
            go_wp2
            go_roundw
            case rel => exact ⟨k + 1, by omega, by go_num, by rw [HS.out], (hxi.alloc _).trans ((Still.refl _).drewN _).ext⟩
            case measure => simp [intOf]; omega
        · obtain rfl : k = n := by omega
          have hall : bestN xs (nthS ls q) y k = bestA xs (nthS ls q) y := by rw [bestA, hln]
          by_cases h0 : 0 ≤ bestN xs (nthS ls q) y k
          · have H0 := Lib.hid hall
            clear hall
            go_wp2
            go_ret
            exact ⟨ret_int (by rw [H0.out, bestR_at (q := q) (by omega) (by rw [← H0.out]; exact h0) HQ.out]), hxw⟩
          · have H0 := Lib.hid hall
            clear hall
            go_wp2
            go_roundw
            case rel =>
              refine ⟨q + 1, by omega, by go_num, fun j hj => ?_, hxw⟩
              by_cases e : j = q
              · subst e; rw [← H0.out]; omega
              · exact HQ.out j (by omega)
            case measure => simp [intOf]; omega
    · obtain rfl : q = m := by omega
      go_wp2
      go_ret
      exact ⟨ret_int (bestR_none (fun j hj => HQ.out j (by omega))).symm, hx⟩

end Go.Proofs.YteencdgaldhanaaGreatDoor

/-
  Links: the tests of both sides; the parent of a place in a year.
-/
import Derived.Test.YtkljdmdlmhdpiaaDoorSM
import Derived.Test.YtkljdmdlmhdpiaaDoorFP
import Derived.Test.YtkljdmdlmhdpiaaDoorNLink
namespace Go.Proofs.YtkljdmdlmhdpiaaDoor
open Go.RowKit

def linkB (x : LinkV) : Bool := wordB x.child && (wordB x.parent && (!decide (x.child = x.parent) && spanB ⟨x.from_, x.to_⟩))

set_option maxRecDepth 100000 in
set_option maxHeartbeats 400000 in
theorem l12Is_any (x : LinkV) (w : World) (hx : okLink x) :
    Calls Tryd.prog 20 #[valLink x] w fun e w' => e = .returned (.bool (linkB x)) ∧ Ext w w' := by
  obtain ⟨x0, x1, x2, x3⟩ := x
  obtain ⟨hx0, hx1⟩ := hx
  simp only at hx0 hx1
  have xb := (Ext.refl w).alloc (.cells #[.string x0, .string x1, .int .i64 x2, .int .i64 x3] 35)
  cases h0 : wordB x0
  · have HR := Lib.hid (And.intro h0 (show linkB ⟨x0, x1, x2, x3⟩ = false by simp only [linkB]; rw [h0]; rfl))
    clear h0
    simp only [valLink]
    go_enter Tryd.func20, Tryd.ntmps20
    go_wp2_with (first | (go_at_call 37; refine (specIsWord_any _ _ (by omega)).mono ?_; rintro e w' ⟨rfl, rfl⟩; rw [HR.out.1]))
    go_ret
    exact ⟨by rw [HR.out.2]; rfl, xb⟩
  cases h1 : wordB x1
  · have HR := Lib.hid (And.intro (And.intro h0 h1) (show linkB ⟨x0, x1, x2, x3⟩ = false by simp only [linkB]; rw [h0, h1]; rfl))
    clear h0 h1
    simp only [valLink]
    go_enter Tryd.func20, Tryd.ntmps20
    go_wp2_with (first | (go_at_call 37; refine (specIsWord_any _ _ (by omega)).mono ?_; rintro e w' ⟨rfl, rfl⟩; first | rw [HR.out.1.1] | rw [HR.out.1.2]))
    go_ret
    exact ⟨by rw [HR.out.2]; rfl, xb⟩
  by_cases h2 : x0 = x1
  · have HR := Lib.hid (And.intro (And.intro h0 h1) (show linkB ⟨x0, x1, x2, x3⟩ = false by simp only [linkB]; rw [h0, h1, h2]; simp))
    have hb := beqS_eq h2
    have H2 := Lib.hid h2
    clear h0 h1 h2
    simp only [valLink]
    go_enter Tryd.func20, Tryd.ntmps20
    go_wp2_with (first | (go_at_call 37; refine (specIsWord_any _ _ (by omega)).mono ?_; rintro e w' ⟨rfl, rfl⟩; first | rw [HR.out.1.1] | rw [HR.out.1.2]))
    go_ret
    exact ⟨by rw [HR.out.2]; rfl, xb⟩
  have HR := Lib.hid (And.intro (And.intro h0 h1) (show linkB ⟨x0, x1, x2, x3⟩ = spanB ⟨x2, x3⟩ by simp only [linkB]; rw [h0, h1]; simp [h2]))
  have hb := beqS_ne h2
  have H2 := Lib.hid h2
  clear h0 h1 h2
  simp only [valLink]
  go_enter Tryd.func20, Tryd.ntmps20
  go_wp2_with (first | (go_at_call 37; refine (specIsWord_any _ _ (by omega)).mono ?_; rintro e w' ⟨rfl, rfl⟩; first | rw [HR.out.1.1] | rw [HR.out.1.2]) | (go_at_call 38; refine (specIsSpan_any ⟨x2, x3⟩ _).mono ?_; rintro e w1 ⟨rfl, e1⟩))
  go_ret
  exact ⟨by rw [HR.out.2]; rfl, xb.trans e1⟩

theorem RdS.two (w : World) (x y : ByteArray) (hx : x.size ≤ 1073741824) (hy : y.size ≤ 1073741824) (e : TypeId) : RdS (w.alloc (.cells #[.string x, .string y] e)) (some ⟨w.heap.size, 0, none⟩) 2 [x, y] := by
  refine ⟨⟨rfl, by decide, .inr ⟨_, _, rfl, by simp, fun j u hu => ?_⟩⟩, fun s hs => ?_⟩
  · match j, hu with
    | 0, hu => simpa [layS, World.cell?_alloc_at] using hu
    | 1, hu => simpa [layS, World.cell?_alloc_at] using hu
  · simp only [List.mem_cons, List.mem_nil_iff, or_false] at hs
    rcases hs with rfl | rfl
    · exact hx
    · exact hy

set_option maxRecDepth 100000 in
set_option maxHeartbeats 1000000 in
theorem isLink_any (x : LinkV) (w : World) (hx : okLink x) :
    Calls Tryd.prog 23 #[valLink x] w fun e w' => e = .returned (.bool (linkB x)) ∧ Ext w w' := by
  obtain ⟨x0, x1, x2, x3⟩ := x
  obtain ⟨hx0, hx1⟩ := hx
  simp only at hx0 hx1
  have xb := ((Ext.refl w).alloc (.cells #[.string x0, .string x1, .int .i64 x2, .int .i64 x3] 35)).alloc (.cells #[.string x0, .string x1] 9)
  have hrd := RdS.two (w.alloc (.cells #[.string x0, .string x1, .int .i64 x2, .int .i64 x3] 35)) x0 x1 hx0 hx1 9
  simp only [World.size_alloc] at hrd
  cases h0 : wordsB [x0, x1]
  · have hr : linkB ⟨x0, x1, x2, x3⟩ = false := by
      simp only [linkB]
      cases h1 : wordB x0
      · rfl
      · cases h2 : wordB x1
        · rfl
        · simp [wordsB, h1, h2] at h0
    have HR := Lib.hid (And.intro h0 hr)
    clear h0 hr
    simp only [valLink]
    go_enter Tryd.func23, Tryd.ntmps23
    go_wp2_with fail
    refine (areWords_any _ _ _ _ _ hrd).mono ?_
    rintro e w1 ⟨rfl, e1⟩
    rw [HR.out.1]
    go_wp2
    go_ret
    exact ⟨by rw [HR.out.2]; rfl, xb.trans e1⟩
  have hw0 : wordB x0 = true := by
    have := wordsB_at h0 (k := 0) (by simp)
    simpa [nthS] using this
  have hw1 : wordB x1 = true := by
    have := wordsB_at h0 (k := 1) (by simp)
    simpa [nthS] using this
  by_cases h2 : x0 = x1
  · have hr : linkB ⟨x0, x1, x2, x3⟩ = false := by simp only [linkB]; rw [h2]; simp
    have HR := Lib.hid (And.intro h0 hr)
    have hb := beqS_eq h2
    have H2 := Lib.hid h2
    clear h0 hr h2 hw0 hw1
    simp only [valLink]
    go_enter Tryd.func23, Tryd.ntmps23
    go_wp2_with fail
    refine (areWords_any _ _ _ _ _ hrd).mono ?_
    rintro e w1 ⟨rfl, e1⟩
    rw [HR.out.1]
    have b0 : _ = some (Value.string x0) := box_keptG (((Ext.refl _).alloc _).trans e1) 0
    have b1 : _ = some (Value.string x1) := box_keptG (((Ext.refl _).alloc _).trans e1) 1
    go_wp2
    go_ret
    exact ⟨by rw [HR.out.2]; rfl, xb.trans e1⟩
  · have hr : linkB ⟨x0, x1, x2, x3⟩ = spanB ⟨x2, x3⟩ := by simp only [linkB]; rw [hw0, hw1]; simp [h2]
    have HR := Lib.hid (And.intro h0 hr)
    have hb := beqS_ne h2
    have H2 := Lib.hid h2
    clear h0 hr h2 hw0 hw1
    simp only [valLink]
    go_enter Tryd.func23, Tryd.ntmps23
    go_wp2_with fail
    refine (areWords_any _ _ _ _ _ hrd).mono ?_
    rintro e w1 ⟨rfl, e1⟩
    rw [HR.out.1]
    have b0 : _ = some (Value.string x0) := box_keptG (((Ext.refl _).alloc _).trans e1) 0
    have b1 : _ = some (Value.string x1) := box_keptG (((Ext.refl _).alloc _).trans e1) 1
    have b2 : _ = some (Value.int .i64 x2) := box_keptG (((Ext.refl _).alloc _).trans e1) 2
    have b3 : _ = some (Value.int .i64 x3) := box_keptG (((Ext.refl _).alloc _).trans e1) 3
    go_wp2_with (first | (go_at_call 44; refine (implIsSpan_any ⟨x2, x3⟩ _).mono ?_; rintro e w2 ⟨rfl, e2⟩))
    go_ret
    exact ⟨by rw [HR.out.2]; rfl, (xb.trans e1).trans e2⟩

/-! Parents. -/
def parP (code : ByteArray) (y : Int) (x : LinkV) : Bool := decide (x.child = code) && inB y x.from_ x.to_
def parI (xs : List LinkV) (code : ByteArray) (y : Int) : Int := idxP (parP code y) xs
def parT (xs : List LinkV) (code : ByteArray) (y : Int) : ByteArray := if parI xs code y < 0 then ⟨#[]⟩ else (nthLink xs (parI xs code y).toNat).parent
def parB (xs : List LinkV) (code : ByteArray) (y : Int) : Bool := decide (0 ≤ parI xs code y)
theorem par_none {xs : List LinkV} {code : ByteArray} {y : Int} (h : parI xs code y = -1) : parT xs code y = ⟨#[]⟩ ∧ parB xs code y = false := ⟨by rw [parT, h]; rfl, by rw [parB, h]; rfl⟩
theorem par_some {xs : List LinkV} {code : ByteArray} {y : Int} {k : Nat} (h : parI xs code y = k) : parT xs code y = (nthLink xs k).parent ∧ parB xs code y = true := ⟨by rw [parT, h, if_neg (by omega)]; rfl, by rw [parB, h]; simp⟩
theorem par_cases (xs : List LinkV) (code : ByteArray) (y : Int) : parI xs code y = -1 ∨ ∃ k, k < xs.length ∧ parI xs code y = (k : Nat) := by
  rcases idxP_cases (parP code y) xs with ⟨h, _⟩ | ⟨k, hk, h, _⟩
  · exact .inl h
  · exact .inr ⟨k, hk, h⟩

set_option maxRecDepth 100000 in
set_option maxHeartbeats 400000 in
theorem parClosure_any (x : LinkV) (s : ByteArray) (y : Int) (b b2 : Nat) (w : World) (hb : b < w.heap.size) (hb2 : b2 < w.heap.size) (h1 : w.cell? ⟨b, 0, none⟩ = some (.string s)) (h2 : w.cell? ⟨b2, 0, none⟩ = some (.int .i64 y)) :
    Calls Tryd.prog 49 #[valLink x, .pointer (some ⟨b, 0, none⟩), .pointer (some ⟨b2, 0, none⟩)] w fun e w' => e = .returned (.bool (parP s y x)) ∧ Ext w w' := by
  obtain ⟨x0, x1, x2, x3⟩ := x
  have xb := (Ext.refl w).alloc (.cells #[.string x0, .string x1, .int .i64 x2, .int .i64 x3] 35)
  have k1 := (Below.cell xb (p := ⟨b, 0, none⟩) hb).trans h1
  have k2 := (Below.cell xb (p := ⟨b2, 0, none⟩) hb2).trans h2
  simp only [valLink]
  by_cases he : x0 = s
  · have hr : parP s y ⟨x0, x1, x2, x3⟩ = inB y x2 x3 := by simp [parP, he]
    have hbe := beqS_eq he
    have HR := Lib.hid hr
    clear hr he
    go_enter Tryd.func49, Tryd.ntmps49
    go_wp2_with fail
    refine (has_any ⟨x2, x3⟩ _ _).mono ?_
    rintro e w2 ⟨rfl, e2⟩
    go_wp2
    go_ret
    exact ⟨by rw [HR.out]; rfl, xb.trans e2⟩
  · have hr : parP s y ⟨x0, x1, x2, x3⟩ = false := by simp [parP, he]
    have hbe := beqS_ne he
    have HR := Lib.hid hr
    clear hr he
    go_enter Tryd.func49, Tryd.ntmps49
    go_wp2
    go_ret
    exact ⟨by rw [HR.out]; rfl, xb⟩

set_option maxRecDepth 100000 in
set_option maxHeartbeats 400000 in
theorem idxPar_any (a : Option Addr) (n c : Nat) (xs : List LinkV) (p : LinkV → Bool) (q0 : Addr) (q1 : Addr) (w : World) (hr : RdLink w a n xs) (hk : ∀ w1, Ext w w1 → ∀ k, k < n → Calls Tryd.prog 49 #[valLink (nthLink xs k), .pointer (some q0), .pointer (some q1)] w1 fun e w2 => e = .returned (.bool (p (nthLink xs k))) ∧ Ext w1 w2) :
    Calls Tryd.prog 48 #[.slice a n c, .func (.func 49) #[] #[.pointer (some q0), .pointer (some q1)]] w fun e w' => e = .returned (.int .i64 (idxP p xs)) ∧ Ext w w' := by
  have hm := hr.le
  have hln := hr.len
  have HK := Lib.hid hk
  clear hk
  go_enter Tryd.func48, Tryd.ntmps48
  go_wp2
  go_loopw [8] (fun i wr => ∃ k : Nat, k ≤ n ∧ i = .int .i64 k ∧ (∀ j (hj : j < xs.length), j < k → p xs[j] = false) ∧ Ext w wr) (fun i _ => n - (intOf i).toNat)
  case atStart => exact ⟨0, Nat.zero_le _, rfl, fun j _ h => by omega, Ext.refl _⟩
  case round =>
    obtain ⟨k, hk, rfl, hall, hx⟩ := hrel
    have HA := Lib.hid hall
    clear hall
    by_cases hlt : k < n
    · obtain ⟨b, o, rfl, hbl, hA⟩ := (hr.ext hx).at (by omega)
      obtain ⟨hc0, hc1, hc2, hc3⟩ := hA k hlt
      clear hA
      have hki : (k : Int) < n := by omega
      have hget : xs[k]'(by omega) = nthLink xs k := (nthLink_eq (by omega)).symm
      cases hp : p (nthLink xs k)
      · have HP := Lib.hid hp
        have HG := Lib.hid hget
        clear hp hget
        go_wp2_with (first | (go_at_call 49; refine (HK.out _ hx k hlt).mono ?_; rintro e w1 ⟨rfl, hx1⟩; rw [HP.out]))
        go_roundw
        case rel =>
          refine ⟨k + 1, by omega, by go_num, fun j hj hjk => ?_, hx.trans hx1⟩
          by_cases e : j = k
          · subst e; rw [HG.out]; exact HP.out
          · exact HA.out j hj (by omega)
        case measure => simp [intOf]; omega
      · have HP := Lib.hid hp
        have HG := Lib.hid hget
        clear hp hget
        go_wp2_with (first | (go_at_call 49; refine (HK.out _ hx k hlt).mono ?_; rintro e w1 ⟨rfl, hx1⟩; rw [HP.out]))
        go_ret
        exact ⟨ret_int (idxP_at (by omega) (by rw [HG.out]; exact HP.out) HA.out).symm, hx.trans hx1⟩
    · obtain rfl : k = n := by omega
      go_wp2
      go_ret
      exact ⟨ret_int (idxP_none (fun j hj => HA.out j hj (by omega))).symm, hx⟩

set_option maxRecDepth 100000 in
set_option maxHeartbeats 1000000 in
theorem parentIn_any (a : Option Addr) (n c : Nat) (s : ByteArray) (y : Int) (xs : List LinkV) (w : World) (hr : RdLink w a n xs) :
    Calls Tryd.prog 32 #[.slice a n c, .string s, .int .i64 y] w fun e w' => e = .returned (.tuple #[.string (parT xs s y), .bool (parB xs s y)]) ∧ Ext w w' := by
  have hln := hr.len
  have xb := ((Ext.refl w).alloc (.cells #[.string s] 9)).alloc (.cells #[.int .i64 y] 2)
  have hr0 := hr.ext xb
  have c0 : ((w.alloc (.cells #[.string s] 9)).alloc (.cells #[.int .i64 y] 2)).cell? ⟨w.heap.size, 0, none⟩ = some (Value.string s) := box_keptG ((Ext.refl _).alloc _) 0
  have c1 : ((w.alloc (.cells #[.string s] 9)).alloc (.cells #[.int .i64 y] 2)).cell? ⟨w.heap.size + 1, 0, none⟩ = some (Value.int .i64 y) := by
    have := box_keptG (w := w.alloc (.cells #[.string s] 9)) (cs := #[.int .i64 y]) (t := 2) (Ext.refl _) 0
    rw [World.size_alloc] at this
    exact this
  have hsz : ((w.alloc (.cells #[.string s] 9)).alloc (.cells #[.int .i64 y] 2)).heap.size = w.heap.size + 2 := by simp only [World.size_alloc]
  have HB := Lib.hid (And.intro c0 (And.intro c1 hsz))
  clear c0 c1 hsz
  rcases par_cases xs s y with h | ⟨k, hk, h⟩
  · have HP := Lib.hid (And.intro h (par_none h))
    clear h
    go_enter Tryd.func32, Tryd.ntmps32
    go_wp2_with fail
    refine (idxPar_any _ _ _ _ (parP s y) ⟨w.heap.size, 0, none⟩ ⟨w.heap.size + 1, 0, none⟩ _ hr0 (fun w3 hx3 j hj => parClosure_any _ s y _ _ _ (by have := hx3.size; have := HB.out.2.2; omega) (by have := hx3.size; have := HB.out.2.2; omega) ((Below.cell hx3 (p := ⟨w.heap.size, 0, none⟩) (by show w.heap.size < _; have := HB.out.2.2; omega)).trans HB.out.1) ((Below.cell hx3 (p := ⟨w.heap.size + 1, 0, none⟩) (by show w.heap.size + 1 < _; have := HB.out.2.2; omega)).trans HB.out.2.1))).mono ?_
    rintro e w3 ⟨rfl, e3⟩
    rw [show idxP (parP s y) xs = -1 from HP.out.1]
    go_wp2
    go_ret2
    exact ⟨by rw [HP.out.2.1, HP.out.2.2]; rfl, xb.trans e3⟩
  · have HP := Lib.hid (And.intro h (par_some h))
    clear h
    go_enter Tryd.func32, Tryd.ntmps32
    go_wp2_with fail
    refine (idxPar_any _ _ _ _ (parP s y) ⟨w.heap.size, 0, none⟩ ⟨w.heap.size + 1, 0, none⟩ _ hr0 (fun w3 hx3 j hj => parClosure_any _ s y _ _ _ (by have := hx3.size; have := HB.out.2.2; omega) (by have := hx3.size; have := HB.out.2.2; omega) ((Below.cell hx3 (p := ⟨w.heap.size, 0, none⟩) (by show w.heap.size < _; have := HB.out.2.2; omega)).trans HB.out.1) ((Below.cell hx3 (p := ⟨w.heap.size + 1, 0, none⟩) (by show w.heap.size + 1 < _; have := HB.out.2.2; omega)).trans HB.out.2.1))).mono ?_
    rintro e w3 ⟨rfl, e3⟩
    rw [show idxP (parP s y) xs = (k : Int) from HP.out.1]
    obtain ⟨b, o, rfl, hbl, hA⟩ := (hr0.ext e3).at (by omega)
    obtain ⟨hc0, hc1, hc2, hc3⟩ := hA k (by omega)
    clear hA hc0 hc2 hc3
    have hki : (k : Int) < n := by omega
    have hk0 : (0 : Int) ≤ k := by omega
    go_wp2
    go_ret2
    exact ⟨by rw [HP.out.2.1, HP.out.2.2]; rfl, xb.trans e3⟩

set_option maxRecDepth 100000 in
set_option maxHeartbeats 1000000 in
theorem l12Parent_any (a : Option Addr) (n c : Nat) (s : ByteArray) (y : Int) (xs : List LinkV) (w : World) (hr : RdLink w a n xs) :
    Calls Tryd.prog 29 #[.slice a n c, .string s, .int .i64 y] w fun e w' => e = .returned (.string (parT xs s y)) ∧ Still w w' := by
  have hm := hr.le
  have hln := hr.len
  go_enter Tryd.func29, Tryd.ntmps29
  go_wp2
  go_loopw [7] (fun i wr => ∃ k : Nat, k ≤ n ∧ i = .int .i64 k ∧ (∀ j (hj : j < xs.length), j < k → parP s y xs[j] = false) ∧ Still w wr) (fun i _ => n - (intOf i).toNat)
  case atStart => exact ⟨0, Nat.zero_le _, rfl, fun j _ h => by omega, Still.refl _⟩
  case round =>
    obtain ⟨k, hk, rfl, hall, hx⟩ := hrel
    have HA := Lib.hid hall
    clear hall
    by_cases hlt : k < n
    · obtain ⟨b, o, rfl, hbl, hA⟩ := (hr.ext hx.ext).at (by omega)
      obtain ⟨hc0, hc1, hc2, hc3⟩ := hA k hlt
      clear hA
      have hki : (k : Int) < n := by omega
      have hget : xs[k]'(by omega) = nthLink xs k := (nthLink_eq (by omega)).symm
      have HG := Lib.hid hget
      clear hget
      by_cases he : (nthLink xs k).child = s
      · have hbe := beqS_eq he
        have HE := Lib.hid he
        clear he
        cases hin : inB y (nthLink xs k).from_ (nthLink xs k).to_
        · have HI := Lib.hid hin
          clear hin
          go_wp2
          go_quiet (first | (go_at_call 28; exact (l01In_any _ _ _ _).mono fun _ _ h => ⟨h.1, ⟨_, h.2.symm⟩⟩))
          rw [HI.out]
          go_wp2
          go_roundw
          case rel =>
            refine ⟨k + 1, by omega, by go_num, fun j hj hjk => ?_, hx.drewN _⟩
            by_cases e : j = k
            · subst e; rw [HG.out, parP, HI.out, Bool.and_false]
            · exact HA.out j hj (by omega)
          case measure => simp [intOf]; omega
        · have HI := Lib.hid hin
          clear hin
          go_wp2
          go_quiet (first | (go_at_call 28; exact (l01In_any _ _ _ _).mono fun _ _ h => ⟨h.1, ⟨_, h.2.symm⟩⟩))
          rw [HI.out]
          go_wp2
          go_ret
          have hp : parI xs s y = (k : Int) := idxP_at (by omega) (by rw [HG.out, parP, HI.out, HE.out]; simp) HA.out
          exact ⟨by rw [(par_some hp).1]; rfl, hx.drewN _⟩
      · have hbe := beqS_ne he
        have HE := Lib.hid he
        clear he
        go_wp2
        go_quiet (fail)
        go_wp2
        go_roundw
        case rel =>
          refine ⟨k + 1, by omega, by go_num, fun j hj hjk => ?_, hx.drewN _⟩
          by_cases e : j = k
          · subst e; rw [HG.out, parP]; simp [HE.out]
          · exact HA.out j hj (by omega)
        case measure => simp [intOf]; omega
    · obtain rfl : k = n := by omega
      go_wp2
      go_ret
      exact ⟨by rw [(par_none (idxP_none (fun j hj => HA.out j hj (by omega)))).1]; rfl, hx⟩

end Go.Proofs.YtkljdmdlmhdpiaaDoor

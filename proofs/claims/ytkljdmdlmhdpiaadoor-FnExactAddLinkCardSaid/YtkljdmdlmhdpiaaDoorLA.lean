/-
  AreLinks on both sides.
-/
import Derived.Test.YtkljdmdlmhdpiaaDoorLW
import Derived.Deep.DrawnRows
namespace Go.Proofs.YtkljdmdlmhdpiaaDoor
open Go.RowKit
attribute [local go_sem ↓] Go.wp_at_zero Go.wp_at_succ

def wayW (xs : List LinkV) (s : ByteArray) (y : Int) : List ByteArray := if circB xs s y = true then [] else wayU xs s y
/-- Where the reference's loop stands. -/
def AtW (xs : List LinkV) (s : ByteArray) (y : Int) (l : List ByteArray) (x : ByteArray) : Prop := (l = [] ∧ x = s) ∨ (Path xs s y l ∧ x = parT xs (lastS l) y)
theorem parT_ne {xs : List LinkV} {s : ByteArray} {y : Int} (hp : ∀ x ∈ xs, x.parent ≠ ⟨#[]⟩) (h : parB xs s y = true) : parT xs s y ≠ ⟨#[]⟩ := by
  obtain ⟨k, hk, he⟩ := parT_mem h
  rw [he]
  exact hp _ (nthLink_mem hk)
theorem parT_eq {xs : List LinkV} {s : ByteArray} {y : Int} (h : parB xs s y = false) : parT xs s y = ⟨#[]⟩ := by
  rcases par_cases xs s y with h1 | ⟨k, hk, h1⟩
  · exact (par_none h1).1
  · rw [(par_some h1).2] at h; cases h
theorem AtW.fin {xs : List LinkV} {s : ByteArray} {y : Int} {l : List ByteArray} (h : AtW xs s y l ⟨#[]⟩) (hs : s ≠ ⟨#[]⟩) (hp : ∀ x ∈ xs, x.parent ≠ ⟨#[]⟩) : wayU xs s y = l ∧ circB xs s y = false ∧ Path xs s y l := by
  rcases h with ⟨_, h2⟩ | ⟨h1, h2⟩
  · exact absurd h2.symm hs
  · cases hb : parB xs (lastS l) y
    · have := h1.stop (by rw [hb]; simp)
      exact ⟨this.1, by rw [this.2, hb], h1⟩
    · exact absurd h2.symm (parT_ne hp hb)
theorem AtW.circ {xs : List LinkV} {s : ByteArray} {y : Int} {l : List ByteArray} {x : ByteArray} (h : AtW xs s y l x) (hx : x ≠ ⟨#[]⟩) (hh : hasS l x = true) : circB xs s y = true := by
  rcases h with ⟨h1, _⟩ | ⟨h1, h2⟩
  · subst h1; cases hh
  · cases hb : parB xs (lastS l) y
    · rw [parT_eq hb] at h2; exact absurd h2 hx
    · have := h1.stop (by rw [← h2, hh]; simp)
      rw [this.2, hb]
theorem AtW.step {xs : List LinkV} {s : ByteArray} {y : Int} {l : List ByteArray} {x : ByteArray} (h : AtW xs s y l x) (hok : ∀ x ∈ xs, okLink x) (hs : s.size ≤ 1073741824) (hx : x ≠ ⟨#[]⟩) (hh : hasS l x = false) : AtW xs s y (l ++ [x]) (parT xs x y) ∧ x.size ≤ 1073741824 := by
  have key : Path xs s y (l ++ [x]) := by
    rcases h with ⟨h1, h2⟩ | ⟨h1, h2⟩
    · subst h1; subst h2; exact Path.start xs y hs
    · cases hb : parB xs (lastS l) y
      · rw [parT_eq hb] at h2; exact absurd h2 hx
      · subst h2; exact h1.step hok hb hh
  exact ⟨.inr ⟨key, by rw [lastS_snoc]⟩, key.small x (by simp)⟩
theorem AtW.len {xs : List LinkV} {s : ByteArray} {y : Int} {l : List ByteArray} {x : ByteArray} (h : AtW xs s y l x) : l.length ≤ xs.length + 1 := by
  rcases h with ⟨h1, _⟩ | ⟨h1, _⟩
  · rw [h1]; simp
  · exact h1.len
theorem AtW.small {xs : List LinkV} {s : ByteArray} {y : Int} {l : List ByteArray} {x : ByteArray} (h : AtW xs s y l x) : ∀ x ∈ l, x.size ≤ 1073741824 := by
  rcases h with ⟨h1, _⟩ | ⟨h1, _⟩
  · rw [h1]; simp
  · exact h1.small
theorem isEmptyS_ne {s : ByteArray} (h : s ≠ ⟨#[]⟩) : s.toList.isEmpty = false := by
  cases hb : s.toList.isEmpty
  · rfl
  · refine absurd (eqS.1 ?_) h
    rw [ByteArray.toList_eq, List.isEmpty_iff] at hb
    exact hb

set_option maxRecDepth 100000 in
set_option maxHeartbeats 1000000 in
theorem l12Way_any (a : Option Addr) (n c : Nat) (s : ByteArray) (y : Int) (xs : List LinkV) (w : World) (hr : RdLink w a n xs) (hs : s.size ≤ 1073741824) (hs0 : s ≠ ⟨#[]⟩) (hp : ∀ x ∈ xs, x.parent ≠ ⟨#[]⟩) (hn : n ≤ 1048577) :
    Calls Tryd.prog 36 #[.slice a n c, .string s, .int .i64 y] w fun e w' => ∃ v, e = .returned (.tuple #[v, .bool (!circB xs s y)]) ∧ NewS w w' (wayW xs s y) v := by
  have hln := hr.len
  have HS0 := Lib.hid (And.intro hs0 hp)
  clear hs0 hp
  go_enter Tryd.func36, Tryd.ntmps36
  go_wp2
  go_loopw [1, 8] (fun u v wr => ∃ (l : List ByteArray) (x : ByteArray) (a1 : Option Addr) (c1 : Nat), u = .string x ∧ v = .slice a1 l.length c1 ∧ OwnG layS 9 wr w.heap.size a1 l.length c1 l ∧ Ext w wr ∧ AtW xs s y l x) (fun _ v _ => n + 2 - lenV v)
  case atStart => exact ⟨[], s, _, _, rfl, rfl, OwnG.lit layS 9 w (Nat.le_refl _) [] #[] rfl (by simp), (Ext.refl _).alloc _, .inl ⟨rfl, rfl⟩⟩
  case round =>
    obtain ⟨l, x, a1, c1, rfl, rfl, ho, hx, hat⟩ := hrel
    have hll := hat.len
    have hos : OwnS wr w.heap.size a1 l.length c1 l := ⟨ho, hat.small⟩
    have HP := Lib.hid hat
    clear hat
    by_cases hx0 : x = ⟨#[]⟩
    · subst hx0
      have HF := Lib.hid (HP.out.fin HS0.out.1 HS0.out.2)
      go_wp2
      go_ret2
      refine ⟨_, by rw [HF.out.2.1]; rfl, ?_⟩
      rw [wayW, HF.out.2.1, HF.out.1]
      exact ⟨_, _, _, rfl, hos, hx⟩
    · have hemp := isEmptyS_ne hx0
      cases hh : hasS l x
      · have hst := HP.out.step hr.2 hs hx0 hh
        have hsz := hst.2
        have HB := Lib.hid hst.1
        have hi : decide (0 ≤ idxS l x) = false := hh
        have hi2 : idxS l x < 0 := by simpa using hi
        have HX := Lib.hid hx0
        clear hst hh hx0 hi
        go_wp2_with (first | (go_at_call 53; refine (l03Find_any _ _ _ _ _ _ hos.rd).mono ?_; rintro e w2 ⟨rfl, rfl⟩) | (go_at_call 29; refine (l12Parent_any _ _ _ _ _ _ _ (hr.ext hb2)).mono ?_; rintro e w3 ⟨rfl, e3⟩) | (at_builtin; refine wpList_appG layS rfl _ _ 40 9 rfl Tryd.underlying40 (.string ⟨#[]⟩) 16 Tryd.info_string rfl (by decide) w.heap.size _ l.length _ l rfl (ho.alloc _) _ 1 _ [x] rfl (RdG.new1 layS _ _ _ rfl _) (by omega) (hx.alloc _).size ?_; intro a2 c2 w2 hown hgrow; have hb2 := hx.appG ho (Nat.le_refl _) hgrow; have HO := Lib.hid hown; clear hown))
        go_roundw
        case rel => exact ⟨l ++ [x], parT xs x y, a2, c2, rfl, by simp, by simpa using HO.out.ext e3.ext, hb2.trans e3.ext, HB.out⟩
        case measure => simp only [lenV]; omega
      · have hcir := HP.out.circ hx0 hh
        have HB := Lib.hid hcir
        have hi : decide (0 ≤ idxS l x) = true := hh
        have hi2 : (0 : Int) ≤ idxS l x := by simpa using hi
        have HX := Lib.hid hx0
        clear hcir hh hx0 hi
        go_wp2_with (first | (go_at_call 53; refine (l03Find_any _ _ _ _ _ _ hos.rd).mono ?_; rintro e w2 ⟨rfl, rfl⟩))
        go_ret2
        refine ⟨_, by rw [HB.out]; rfl, ?_⟩
        rw [wayW, HB.out]
        exact NewS.nil _ _ hx

/-! Links. -/
def clashL (y x : LinkV) : Bool := decide (x.child = y.child) && meetB ⟨x.from_, x.to_⟩ ⟨y.from_, y.to_⟩
def firstsL (xs : List LinkV) : Bool := (List.range xs.length).all fun i => linkB (nthLink xs i) && !anyP (clashL (nthLink xs i)) (xs.take i)
def circ2 (xs : List LinkV) : Bool := (List.range xs.length).any fun i => (List.range xs.length).any fun k => circB xs (nthLink xs k).child (nthLink xs i).from_
def linksB (xs : List LinkV) : Bool := firstsL xs && (decide (xs.length ≤ 20) && !circ2 xs)
theorem firstsL_bad {xs : List LinkV} {k : Nat} (hk : k < xs.length) (h : linkB (nthLink xs k) = false ∨ anyP (clashL (nthLink xs k)) (xs.take k) = true) : firstsL xs = false := by
  rw [firstsL, List.all_eq_false]
  refine ⟨k, List.mem_range.2 hk, ?_⟩
  rcases h with h | h <;> simp [h]
theorem firstsL_good {xs : List LinkV} (h : ∀ k, k < xs.length → linkB (nthLink xs k) = true ∧ anyP (clashL (nthLink xs k)) (xs.take k) = false) : firstsL xs = true := by
  rw [firstsL, List.all_eq_true]
  intro k hk
  obtain ⟨h1, h2⟩ := h k (List.mem_range.1 hk)
  simp [h1, h2]
theorem circ2_bad {xs : List LinkV} {i k : Nat} (hi : i < xs.length) (hk : k < xs.length) (h : circB xs (nthLink xs k).child (nthLink xs i).from_ = true) : circ2 xs = true := by
  rw [circ2, List.any_eq_true]
  exact ⟨i, List.mem_range.2 hi, List.any_eq_true.2 ⟨k, List.mem_range.2 hk, h⟩⟩
theorem circ2_good {xs : List LinkV} (h : ∀ i, i < xs.length → ∀ k, k < xs.length → circB xs (nthLink xs k).child (nthLink xs i).from_ = false) : circ2 xs = false := by
  rw [circ2, List.any_eq_false]
  intro i hi
  rw [Bool.not_eq_true, List.any_eq_false]
  intro k hk
  rw [h i (List.mem_range.1 hi) k (List.mem_range.1 hk)]
  decide
/-- A circle from a place passes a link of that place in that year. -/
theorem circ_link {xs : List LinkV} {s : ByteArray} {y : Int} (hs : s.size ≤ 1073741824) (h : circB xs s y = true) : ∃ k, k < xs.length ∧ (nthLink xs k).child = s ∧ inB y (nthLink xs k).from_ (nthLink xs k).to_ = true := by
  cases hb : parB xs s y
  · have := (Path.start xs y hs).stop (by rw [show lastS [s] = s from rfl, hb]; simp)
    rw [this.2, show lastS [s] = s from rfl, hb] at h
    cases h
  · rcases idxP_cases (parP s y) xs with ⟨h1, _⟩ | ⟨k, hk, h1, h2, _⟩
    · rw [parB, parI, h1] at hb; cases hb
    · rw [parP, Bool.and_eq_true, ← nthLink_eq hk] at h2
      exact ⟨k, hk, of_decide_eq_true h2.1, h2.2⟩
theorem linkB_word {x : LinkV} (h : linkB x = true) : wordB x.child = true ∧ wordB x.parent = true := by
  rw [linkB, Bool.and_eq_true, Bool.and_eq_true] at h
  exact ⟨h.1, h.2.1⟩
theorem word_ne {s : ByteArray} (h : wordB s = true) : s ≠ ⟨#[]⟩ := by
  intro he
  have := (wordB_size h).1
  rw [he] at this
  exact absurd this (by decide)
theorem RdLink.front {w : World} {a : Option Addr} {n : Nat} {xs : List LinkV} (h : RdLink w a n xs) {k : Nat} (hk : k ≤ n) : RdLink w a k (xs.take k) := by
  have hl := h.len
  have h2 := h.1.2.2
  rw [← List.take_append_drop k xs, List.flatMap_append] at h2
  exact ⟨⟨by simp; omega, Nat.le_trans hk h.le, Rd.front h2⟩, fun s hs => h.2 s (List.mem_of_mem_take hs)⟩
def HoldsLink (w : World) (b : Nat) (y : LinkV) : Prop := b < w.heap.size ∧ w.cell? ⟨b, 0, none⟩ = some (.string y.child) ∧ w.cell? ⟨b, 1, none⟩ = some (.string y.parent) ∧ w.cell? ⟨b, 2, none⟩ = some (.int .i64 y.from_) ∧ w.cell? ⟨b, 3, none⟩ = some (.int .i64 y.to_)
theorem HoldsLink.ext {w w' : World} {b : Nat} {y : LinkV} (h : HoldsLink w b y) (x : Ext w w') : HoldsLink w' b y :=
  ⟨Nat.lt_of_lt_of_le h.1 x.size, (Below.cell x (p := ⟨b, 0, none⟩) h.1).trans h.2.1, (Below.cell x (p := ⟨b, 1, none⟩) h.1).trans h.2.2.1, (Below.cell x (p := ⟨b, 2, none⟩) h.1).trans h.2.2.2.1, (Below.cell x (p := ⟨b, 3, none⟩) h.1).trans h.2.2.2.2⟩
theorem HoldsLink.box (w : World) (y : LinkV) (t : TypeId) {w' : World} (x : Ext (w.alloc (.cells #[.string y.child, .string y.parent, .int .i64 y.from_, .int .i64 y.to_] t)) w') : HoldsLink w' w.heap.size y :=
  ⟨by have := x.size; simp at this; omega, box_keptG x 0, box_keptG x 1, box_keptG x 2, box_keptG x 3⟩

set_option maxRecDepth 100000 in
set_option maxHeartbeats 400000 in
theorem clashL_any (x y : LinkV) (b : Nat) (w : World) (hy : HoldsLink w b y) :
    Calls Tryd.prog 40 #[valLink x, .pointer (some ⟨b, 0, none⟩)] w fun e w' => e = .returned (.bool (clashL y x)) ∧ Ext w w' := by
  obtain ⟨x0, x1, x2, x3⟩ := x
  have xb := (Ext.refl w).alloc (.cells #[.string x0, .string x1, .int .i64 x2, .int .i64 x3] 35)
  obtain ⟨hb, c0, c1, c2, c3⟩ := hy.ext xb
  simp only [valLink]
  by_cases he : x0 = y.child
  · have hr : clashL y ⟨x0, x1, x2, x3⟩ = meetB ⟨x2, x3⟩ ⟨y.from_, y.to_⟩ := by simp [clashL, he]
    have hbe := beqS_eq he
    have HR := Lib.hid (And.intro hr he)
    clear hr he
    go_enter Tryd.func40, Tryd.ntmps40
    go_wp2_with fail
    refine (meets_any ⟨x2, x3⟩ ⟨y.from_, y.to_⟩ _).mono ?_
    rintro e w2 ⟨rfl, e2⟩
    go_wp2
    go_ret
    exact ⟨by rw [HR.out.1]; rfl, xb.trans e2⟩
  · have hr : clashL y ⟨x0, x1, x2, x3⟩ = false := by simp [clashL, he]
    have hbe := beqS_ne he
    have HR := Lib.hid hr
    clear hr he
    go_enter Tryd.func40, Tryd.ntmps40
    go_wp2
    go_ret
    exact ⟨by rw [HR.out]; rfl, xb⟩

set_option maxRecDepth 100000 in
set_option maxHeartbeats 400000 in
theorem idxClashL_any (a : Option Addr) (n c : Nat) (xs : List LinkV) (p : LinkV → Bool) (q0 : Addr) (w : World) (hr : RdLink w a n xs) (hk : ∀ w1, Ext w w1 → ∀ k, k < n → Calls Tryd.prog 40 #[valLink (nthLink xs k), .pointer (some q0)] w1 fun e w2 => e = .returned (.bool (p (nthLink xs k))) ∧ Ext w1 w2) :
    Calls Tryd.prog 48 #[.slice a n c, .func (.func 40) #[] #[.pointer (some q0)]] w fun e w' => e = .returned (.int .i64 (idxP p xs)) ∧ Ext w w' := by
  have hm := hr.le
  have hln := hr.len
  have HK := Lib.hid hk
  clear hk
  go_enter Tryd.func48, Tryd.ntmps48
  go_wp2
  go_loopw [8] (fun i wr => ∃ k : Nat, k ≤ n ∧ i = .int .i64 k ∧ (∀ j (hj : j < xs.length), j < k → p xs[j] = false) ∧ Ext w wr) (fun i _ => n - (intOf i).toNat)
  case atStart => exact ⟨0, Nat.zero_le _, rfl, fun j _ h => by omega, Ext.refl _⟩
  case round =>
    obtain ⟨k, hk, rfl, hall, hx⟩ := hrel
    have HA := Lib.hid hall
    clear hall
    by_cases hlt : k < n
    · obtain ⟨b, o, rfl, hbl, hA⟩ := (hr.ext hx).at (by omega)
      obtain ⟨hc0, hc1, hc2, hc3⟩ := hA k hlt
      clear hA
      have hki : (k : Int) < n := by omega
      have hget : xs[k]'(by omega) = nthLink xs k := (nthLink_eq (by omega)).symm
      cases hp : p (nthLink xs k)
      · have HP := Lib.hid hp
        have HG := Lib.hid hget
        clear hp hget
        go_wp2_with (first | (go_at_call 40; refine (HK.out _ hx k hlt).mono ?_; rintro e w1 ⟨rfl, hx1⟩; rw [HP.out]))
        go_roundw
        case rel =>
          refine ⟨k + 1, by omega, by go_num, fun j hj hjk => ?_, hx.trans hx1⟩
          by_cases e : j = k
          · subst e; rw [HG.out]; exact HP.out
          · exact HA.out j hj (by omega)
        case measure => simp [intOf]; omega
      · have HP := Lib.hid hp
        have HG := Lib.hid hget
        clear hp hget
        go_wp2_with (first | (go_at_call 40; refine (HK.out _ hx k hlt).mono ?_; rintro e w1 ⟨rfl, hx1⟩; rw [HP.out]))
        go_ret
        exact ⟨ret_int (idxP_at (by omega) (by rw [HG.out]; exact HP.out) HA.out).symm, hx.trans hx1⟩
    · obtain rfl : k = n := by omega
      go_wp2
      go_ret
      exact ⟨ret_int (idxP_none (fun j hj => HA.out j hj (by omega))).symm, hx⟩

set_option maxHeartbeats 400000 in
theorem anyClashL_any (a : Option Addr) (n c : Nat) (xs : List LinkV) (p : LinkV → Bool) (q0 : Addr) (w : World) (hr : RdLink w a n xs) (hk : ∀ w1, Ext w w1 → ∀ k, k < n → Calls Tryd.prog 40 #[valLink (nthLink xs k), .pointer (some q0)] w1 fun e w2 => e = .returned (.bool (p (nthLink xs k))) ∧ Ext w1 w2) :
    Calls Tryd.prog 39 #[.slice a n c, .func (.func 40) #[] #[.pointer (some q0)]] w fun e w' => e = .returned (.bool (anyP p xs)) ∧ Ext w w' := by
  go_enter Tryd.func39, Tryd.ntmps39
  go_wp2_with fail
  refine (idxClashL_any _ _ _ _ p _ _ hr hk).mono ?_
  rintro e w' ⟨rfl, hx⟩
  go_wp2
  go_ret
  exact ⟨ret_bool rfl, hx⟩

set_option maxRecDepth 100000 in
set_option maxHeartbeats 4000000 in
theorem implAreLinks_any (a : Option Addr) (n c : Nat) (xs : List LinkV) (w : World) (hr : RdLink w a n xs) (hcap : n ≤ c) (hn : n ≤ 1048577) :
    Calls Tryd.prog 22 #[.slice a n c] w fun e w' => e = .returned (.bool (linksB xs)) ∧ Ext w w' := by
  have hm := hr.le
  have hln := hr.len
  go_enter Tryd.func22, Tryd.ntmps22
  go_wp2
  go_loopw [11] (fun i wr => ∃ k : Nat, k ≤ n ∧ i = .int .i64 k ∧ (∀ j, j < k → linkB (nthLink xs j) = true ∧ anyP (clashL (nthLink xs j)) (xs.take j) = false) ∧ Ext w wr) (fun i _ => n - (intOf i).toNat)
  case atStart => exact ⟨0, Nat.zero_le _, rfl, by simp, Ext.refl _⟩
  case round =>
    obtain ⟨k, hk, rfl, hall, hx⟩ := hrel
    have HA := Lib.hid hall
    clear hall
    by_cases hlt : k < n
    · obtain ⟨b, o, rfl, hbl, hA⟩ := (hr.ext hx).at (by omega)
      obtain ⟨hc0, hc1, hc2, hc3⟩ := hA k hlt
      have hok := hr.ok hlt
      have hfr := (hr.ext hx).front (Nat.le_of_lt hlt)
      have hki : (k : Int) < n := by omega
      clear hA
      cases h : linkB (nthLink xs k)
      · have HH := Lib.hid h
        clear h
        go_wp2_with fail
        refine (isLink_any (nthLink xs k) _ hok).mono ?_
        rintro e w1 ⟨rfl, hx1⟩
        rw [HH.out]
        go_wp2
        go_ret
        exact ⟨ret_bool (by rw [linksB, firstsL_bad (by omega) (.inl HH.out)]; rfl), ((hx.alloc _).trans hx1)⟩
      · have HH := Lib.hid h
        clear h
        have p0 : (0 : Int) ≤ k := by omega
        have p1 : (k : Int) ≤ c := by omega
        go_wp2_with fail
        refine (isLink_any (nthLink xs k) _ hok).mono ?_
        rintro e w1 ⟨rfl, hx1⟩
        rw [HH.out]
        have hbx := HoldsLink.box wr (nthLink xs k) 35 hx1
        have HB := Lib.hid hbx
        clear hbx
        go_wp2_with fail
        refine (anyClashL_any _ _ _ _ (clashL (nthLink xs k)) ⟨wr.heap.size, 0, none⟩ _ (hfr.ext (((Ext.refl _).alloc _).trans hx1)) (fun w2 hx2 j hj => clashL_any _ _ _ _ (HB.out.ext hx2))).mono ?_
        rintro e w2 ⟨rfl, hx2⟩
        clear hc0 hc1 hc2 hc3
        cases hf : anyP (clashL (nthLink xs k)) (xs.take k)
        all_goals
          have HF := Lib.hid hf
          clear hf
        · go_wp2
          go_roundw
          case rel =>
            refine ⟨k + 1, by omega, by go_num, fun j hj => ?_, (((hx.alloc _).trans hx1).trans hx2)⟩
            by_cases e : j = k
            · rw [e]; exact ⟨HH.out, HF.out⟩
            · exact HA.out j (by omega)
          case measure => simp [intOf]; omega
        · go_wp2
          go_ret
          exact ⟨ret_bool (by rw [linksB, firstsL_bad (k := k) (by omega) (.inr HF.out)]; rfl), (((hx.alloc _).trans hx1).trans hx2)⟩
    · obtain rfl : k = n := by omega
      have hfirst : firstsL xs = true := firstsL_good (fun j hj => HA.out j (by omega))
      have HF := Lib.hid (And.intro hfirst HA.out)
      clear hfirst
      go_wp2
      go_loopw [29] (fun i wi => ∃ m : Nat, m ≤ k ∧ i = .int .i64 m ∧ (∀ j, j < m → ∀ q, q < k → inB (nthLink xs j).from_ (nthLink xs q).from_ (nthLink xs q).to_ = true → circB xs (nthLink xs q).child (nthLink xs j).from_ = false) ∧ Ext w wi) (fun i _ => k - (intOf i).toNat)
      case atStart => exact ⟨0, Nat.zero_le _, rfl, fun j h => by omega, hx⟩
      case round =>
        obtain ⟨m, hm2, rfl, hall2, hxi⟩ := hrel
        have HC := Lib.hid hall2
        clear hall2
        by_cases hltm : m < k
        · obtain ⟨b, o, rfl, hbl, hA⟩ := (hr.ext hxi).at (by omega)
          obtain ⟨hc0, hc1, hc2, hc3⟩ := hA m hltm
          clear hA
          have hmi : (m : Int) < k := by omega
          go_wp2
          go_loopw [35] (fun i wj => ∃ q : Nat, q ≤ k ∧ i = .int .i64 q ∧ (∀ r, r < q → inB (nthLink xs m).from_ (nthLink xs r).from_ (nthLink xs r).to_ = true → circB xs (nthLink xs r).child (nthLink xs m).from_ = false) ∧ Ext (wr.alloc (.cells #[.string (nthLink xs m).child, .string (nthLink xs m).parent, .int .i64 (nthLink xs m).from_, .int .i64 (nthLink xs m).to_] 35)) wj) (fun i _ => k - (intOf i).toNat)
          case atStart => exact ⟨0, Nat.zero_le _, rfl, fun j h => by omega, Ext.refl _⟩
          case round =>
            obtain ⟨q, hq, rfl, hall3, hxj⟩ := hrel
            have HD := Lib.hid hall3
            clear hall3 hc0 hc1 hc2 hc3
            have hxw := (hxi.alloc _).trans hxj
            by_cases hltq : q < k
            · obtain ⟨b', o', heq, hbl', hA⟩ := (hr.ext hxw).at (by omega)
              obtain ⟨hd0, hd1, hd2, hd3⟩ := hA q hltq
              cases heq
              clear hA
              have hqi : (q : Int) < k := by omega
              have hokq := hr.ok hltq
              have hY := hxj.alloc (.cells #[.string (nthLink xs q).child, .string (nthLink xs q).parent, .int .i64 (nthLink xs q).from_, .int .i64 (nthLink xs q).to_] 35)
              have b2 : _ = some (Value.int .i64 (nthLink xs m).from_) := box_keptG hY 2
              go_wp2_with fail
              refine (has_any ⟨(nthLink xs q).from_, (nthLink xs q).to_⟩ (nthLink xs m).from_ _).mono ?_
              rintro e w1 ⟨rfl, e1⟩
              cases hin : inB (nthLink xs m).from_ (nthLink xs q).from_ (nthLink xs q).to_
              · have HI := Lib.hid hin
                clear hin
                have hxx := hY.trans e1
                have HX := Lib.hid hxx
                clear hxx
                go_wp2
                go_roundw
                case rel =>
                  refine ⟨q + 1, by omega, by go_num, fun j hj hi => ?_, HX.out⟩
                  by_cases e : j = q
                  · subst e; rw [HI.out] at hi; cases hi
                  · exact HD.out j (by omega) hi
                case measure => simp [intOf]; omega
              · have HI := Lib.hid hin
                clear hin
                have d0 : _ = some (Value.string (nthLink xs q).child) := box_keptG e1 0
                have d2 : _ = some (Value.int .i64 (nthLink xs m).from_) := box_keptG (hY.trans e1) 2
                go_wp2_with fail
                refine (isCircle_any _ _ _ _ _ _ _ (hr.ext ((hxw.alloc _).trans e1)) hokq.1 hn).mono ?_
                rintro e w2 ⟨rfl, e2⟩
                cases hci : circB xs (nthLink xs q).child (nthLink xs m).from_
                · have HI2 := Lib.hid hci
                  clear hci
                  have hxx := (hY.trans e1).trans e2
                  have HX := Lib.hid hxx
                  clear hxx
                  go_wp2
                  go_roundw
                  case rel =>
                    refine ⟨q + 1, by omega, by go_num, fun j hj hi => ?_, HX.out⟩
                    by_cases e : j = q
                    · subst e; exact HI2.out
                    · exact HD.out j (by omega) hi
                  case measure => simp [intOf]; omega
                · have HI2 := Lib.hid hci
                  clear hci
                  go_wp2
                  go_ret
                  exact ⟨ret_bool (by rw [linksB, circ2_bad (i := m) (k := q) (by omega) (by omega) HI2.out]; simp), ((hxw.alloc _).trans e1).trans e2⟩
            · obtain rfl : q = k := by omega
              go_wp2
              go_roundw
              case rel =>
                refine ⟨m + 1, by omega, by go_num, fun j hj r hr2 hi => ?_, hxw⟩
                by_cases e : j = m
                · subst e; exact HD.out r hr2 hi
                · exact HC.out j (by omega) r hr2 hi
              case measure => simp [intOf]; omega
        · obtain rfl : m = k := by omega
          have hc2 : circ2 xs = false := circ2_good fun i hi q hq => by
            cases hcc : circB xs (nthLink xs q).child (nthLink xs i).from_
            · rfl
            · obtain ⟨r, hr2, he, hin⟩ := circ_link (hr.ok (by omega)).1 hcc
              rw [← he] at hcc
              rw [HC.out i (by omega) r (by omega) hin] at hcc
              cases hcc
          have HG := Lib.hid hc2
          clear hc2
          go_wp2
          go_ret
          exact ⟨ret_bool (by rw [linksB, HF.out.1, HG.out, hln, Bool.true_and, Bool.not_false, Bool.and_true]; exact decide_eq_decide.2 (by omega)), hxi⟩

end Go.Proofs.YtkljdmdlmhdpiaaDoor

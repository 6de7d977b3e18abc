/-
  FindPlace: the program's binary search, and the reference's search from the front.
-/
import Derived.Test.YtjelmidkkpchkaaGreatDoorRG
import Derived.Test.YtjelmidkkpchkaaGreatDoorRL
import Derived.Deep.LoopGhost
namespace Go.Proofs.YtjelmidkkpchkaaGreatDoor
open Go.RowKit
attribute [local go_sem ↓] Go.wp_at_zero Go.wp_at_succ

theorem cmp_lt : ∀ a b : List UInt8, (Lib.compareBytes a b < 0 ↔ a < b) ∧ (Lib.compareBytes a b = 0 ↔ a = b)
  | [], [] => by simp [Lib.compareBytes]
  | [], _ :: _ => by simp [Lib.compareBytes]
  | _ :: _, [] => by simp [Lib.compareBytes]
  | a :: xs, b :: bs => by
    rw [Lib.compareBytes]
    obtain ⟨h1, h2⟩ := cmp_lt xs bs
    by_cases h : a < b
    · rw [if_pos h]
      refine ⟨⟨fun _ => List.cons_lt_cons_iff.2 (.inl h), fun _ => by decide⟩, ⟨fun h => (by cases h), fun e => ?_⟩⟩
      injection e with e _
      rw [e] at h
      exact absurd h (UInt8.lt_irrefl _)
    · rw [if_neg h]
      by_cases h' : b < a
      · rw [if_pos h']
        refine ⟨⟨fun h => (by cases h), fun hl => ?_⟩, ⟨fun h => (by cases h), fun e => ?_⟩⟩
        · rcases List.cons_lt_cons_iff.1 hl with h3 | h3
          · exact absurd h3 h
          · rw [h3.1] at h'; exact absurd h' (UInt8.lt_irrefl _)
        · injection e with e _
          rw [e] at h'
          exact absurd h' (UInt8.lt_irrefl _)
      · rw [if_neg h']
        have e : a = b := UInt8.le_antisymm (UInt8.not_lt.1 h') (UInt8.not_lt.1 h)
        subst e
        constructor
        · rw [h1, List.cons_lt_cons_iff]
          exact ⟨fun h => .inr ⟨rfl, h⟩, fun h3 => h3.elim (fun h => absurd h (UInt8.lt_irrefl _)) fun h => h.2⟩
        · rw [h2]
          exact ⟨fun h => by rw [h], fun e => by injection e⟩
def cmpS (a b : ByteArray) : Int := Lib.compareBytes a.data.toList b.data.toList
theorem cmpS_lt {a b : ByteArray} (h : ltS a b = true) : cmpS a b < 0 := (cmp_lt _ _).1.2 (by rw [ltS, decide_eq_true_eq] at h; exact h)
theorem cmpS_ge {a b : ByteArray} (h : ltS a b = false) : ¬ cmpS a b < 0 := fun h2 => by rw [ltS, decide_eq_false_iff_not] at h; exact h ((cmp_lt _ _).1.1 h2)
theorem cmpS_eq {a b : ByteArray} (h : a = b) : cmpS a b = 0 := (cmp_lt _ _).2.2 (by rw [h])
theorem cmpS_ne {a b : ByteArray} (h : a ≠ b) : ¬ cmpS a b = 0 := fun h2 => h (eqS.1 ((cmp_lt _ _).2.1 h2))
/-- Where a place with this code lies, or would lie. -/
def fpI (xs : List PlaceV) (s : ByteArray) : Nat := xs.countP fun x => ltS x.code s
def fpB (xs : List PlaceV) (s : ByteArray) : Bool := decide (fpI xs s < xs.length) && decide ((nthPlace xs (fpI xs s)).code = s)
theorem fpI_at {xs : List PlaceV} {s : ByteArray} {p : Nat} (hp : p ≤ xs.length) (h1 : ∀ t, t < p → ltS (nthPlace xs t).code s = true) (h2 : ∀ t, p ≤ t → t < xs.length → ltS (nthPlace xs t).code s = false) : fpI xs s = p := by
  have e : xs = xs.take p ++ xs.drop p := (List.take_append_drop p xs).symm
  rw [fpI, e, List.countP_append, List.countP_eq_length.2, List.countP_eq_zero.2]
  · simp; omega
  · intro x hx
    obtain ⟨j, hj, rfl⟩ := List.getElem_of_mem hx
    rw [List.length_drop] at hj
    rw [List.getElem_drop]
    have := h2 (p + j) (by omega) (by omega)
    rw [nthPlace_eq (by omega)] at this
    rw [this]; decide
  · intro x hx
    obtain ⟨j, hj, rfl⟩ := List.getElem_of_mem hx
    rw [List.length_take] at hj
    rw [List.getElem_take]
    have := h1 j (by omega)
    rwa [nthPlace_eq (by omega)] at this

set_option maxHeartbeats 400000 in
theorem fpClosure_any (x : PlaceV) (r : Ref) (s : ByteArray) (w : World) :
    Calls Tryz.prog 109 #[valPlace x r, .string s] w fun e w' => e = .returned (.int .i64 (cmpS x.code s)) ∧ Ext w w' := by
  obtain ⟨v0, v1, v2, v3, v4⟩ := x
  obtain ⟨ra, rn, rc⟩ := r
  simp only [valPlace]
  go_enter Tryz.func109, Tryz.ntmps109
  go_wp2_with fail
  refine (Tryz.strings_Compare v0 s _).mono ?_
  rintro e w1 ⟨rfl, rfl⟩
  go_wp2
  go_ret
  exact ⟨rfl, by repeat (first | exact Ext.refl _ | apply Ext.alloc)⟩

set_option maxRecDepth 1000000 in
set_option maxHeartbeats 4000000 in
theorem binPlace_any (a : Option Addr) (n c : Nat) (s : ByteArray) (xs : List PlaceV) (w : World) (hr : RdPlace w a n xs) (hm : ∀ i j, i ≤ j → j < n → ltS (nthPlace xs j).code s = true → ltS (nthPlace xs i).code s = true) (hn : n ≤ 1048576) :
    Calls Tryz.prog 108 #[.slice a n c, .string s, .func (.func 109) #[] #[]] w fun e w' => e = .returned (.tuple #[.int .i64 (fpI xs s : Nat), .bool (fpB xs s)]) ∧ Ext w w' := by
  obtain ⟨f, hr⟩ := hr
  have hln := hr.len
  have HM := Lib.hid hm
  clear hm
  go_enter Tryz.func108, Tryz.ntmps108
  go_wp2
  go_loopg [9, 10] n (fun kx s9 s10 wr => ∃ lo hi : Nat, s9 = .int .i64 lo ∧ s10 = .int .i64 hi ∧ lo ≤ hi ∧ hi ≤ n ∧ hi - lo ≤ kx ∧ Ext w wr ∧ Hid ((∀ t, t < lo → ltS (nthPlace xs t).code s = true) ∧ (∀ t, hi ≤ t → t < n → ltS (nthPlace xs t).code s = false)))
  case atStart => exact ⟨0, n, rfl, rfl, Nat.zero_le _, Nat.le_refl _, by omega, Ext.refl _, (⟨fun t ht => absurd ht (Nat.not_lt_zero _), fun t h1 h2 => by omega⟩ : (∀ t, t < 0 → ltS (nthPlace xs t).code s = true) ∧ (∀ t, n ≤ t → t < n → ltS (nthPlace xs t).code s = false))⟩
  case round =>
    obtain ⟨lo, hi, rfl, rfl, hlh, hin, hg, hx, I⟩ := hrel
    by_cases hlt : lo < hi
    · obtain ⟨b, o, rfl, hbl, hA⟩ := (hr.ext hx).at (by omega)
      obtain ⟨hc0, hc1, hc2, hc3, hc4⟩ := hA ((lo + hi) / 2) (by omega)
      clear hA
      cases hl : ltS (nthPlace xs ((lo + hi) / 2)).code s
      · have hcm := cmpS_ge hl
        have HL := Lib.hid hl
        clear hl
        go_wp2_with (go_at_call 109; refine (fpClosure_any (nthPlace xs ((lo + hi) / 2)) (f ((lo + hi) / 2)) s _).mono ?_; rintro e w1 ⟨rfl, e1⟩)
        go_roundg ((lo + hi) / 2 - lo)
        case measure => omega
        case rel =>
          have I2 : Hid ((∀ t, t < lo → ltS (nthPlace xs t).code s = true) ∧ (∀ t, (lo + hi) / 2 ≤ t → t < n → ltS (nthPlace xs t).code s = false)) := ⟨I.out.1, fun t ht htn => by
            cases h : ltS (nthPlace xs t).code s
            · rfl
            · have := HM.out ((lo + hi) / 2) t ht htn h
              rw [HL.out] at this; cases this⟩
          exact ⟨lo, (lo + hi) / 2, rfl, by rw [show ((lo : Int) + (hi : Int)) / 2 = (((lo + hi) / 2 : Nat) : Int) by omega], by omega, by omega, Nat.le_refl _, hx.trans e1, I2⟩
      · have hcm := cmpS_lt hl
        have HL := Lib.hid hl
        clear hl
        go_wp2_with (go_at_call 109; refine (fpClosure_any (nthPlace xs ((lo + hi) / 2)) (f ((lo + hi) / 2)) s _).mono ?_; rintro e w1 ⟨rfl, e1⟩)
        go_roundg (hi - ((lo + hi) / 2 + 1))
        case measure => omega
        case rel =>
          have I2 : Hid ((∀ t, t < (lo + hi) / 2 + 1 → ltS (nthPlace xs t).code s = true) ∧ (∀ t, hi ≤ t → t < n → ltS (nthPlace xs t).code s = false)) := ⟨fun t ht => HM.out t ((lo + hi) / 2) (by omega) (by omega) HL.out, I.out.2⟩
          exact ⟨(lo + hi) / 2 + 1, hi, by rw [show ((lo : Int) + (hi : Int)) / 2 + 1 = (((lo + hi) / 2 + 1 : Nat) : Int) by omega], rfl, by omega, hin, Nat.le_refl _, hx.trans e1, I2⟩
    · obtain rfl : hi = lo := by omega
      have hp : fpI xs s = hi := fpI_at (by omega) I.out.1 (fun t h1 h2 => I.out.2 t h1 (by omega))
      by_cases hn2 : hi < n
      · obtain ⟨b, o, rfl, hbl, hA⟩ := (hr.ext hx).at (by omega)
        obtain ⟨hc0, hc1, hc2, hc3, hc4⟩ := hA hi hn2
        clear hA
        by_cases he : (nthPlace xs hi).code = s
        · have hcm := cmpS_eq he
          have HZ := Lib.hid (And.intro hp (show fpB xs s = true by rw [fpB, hp, he]; simp; omega))
          clear hp he
          go_wp2_with (go_at_call 109; refine (fpClosure_any (nthPlace xs hi) (f hi) s _).mono ?_; rintro e w1 ⟨rfl, e1⟩)
          go_ret2
          rw [HZ.out.1, HZ.out.2]
          exact ⟨rfl, hx.trans e1⟩
        · have hcm : (cmpS (nthPlace xs hi).code s == 0) = false := by simpa using cmpS_ne he
          have HZ := Lib.hid (And.intro hp (show fpB xs s = false by rw [fpB, hp]; simp [he]))
          clear hp he
          go_wp2_with (go_at_call 109; refine (fpClosure_any (nthPlace xs hi) (f hi) s _).mono ?_; rintro e w1 ⟨rfl, e1⟩)
          go_ret2
          rw [HZ.out.1, HZ.out.2]
          exact ⟨rfl, hx.trans e1⟩
      · have HZ := Lib.hid (And.intro hp (show fpB xs s = false by rw [fpB, hp]; simp; omega))
        clear hp
        go_wp2
        go_ret2
        rw [HZ.out.1, HZ.out.2]
        exact ⟨rfl, hx⟩

set_option maxHeartbeats 400000 in
theorem findPlace_any (a : Option Addr) (n c : Nat) (s : ByteArray) (xs : List PlaceV) (w : World) (hr : RdPlace w a n xs) (hm : ∀ i j, i ≤ j → j < n → ltS (nthPlace xs j).code s = true → ltS (nthPlace xs i).code s = true) (hn : n ≤ 1048576) :
    Calls Tryz.prog 62 #[.slice a n c, .string s] w fun e w' => e = .returned (.tuple #[.int .i64 (fpI xs s : Nat), .bool (fpB xs s)]) ∧ Ext w w' := by
  go_enter Tryz.func62, Tryz.ntmps62
  go_wp2_with fail
  refine (binPlace_any _ _ _ _ _ _ hr hm hn).mono ?_
  rintro e w1 ⟨rfl, e1⟩
  go_wp2
  go_ret2
  exact ⟨rfl, e1⟩

/-! The law: what is found. -/
theorem reg_mono {xs : List PlaceV} (h : regB xs = true) (s : ByteArray) : ∀ i j, i ≤ j → j < xs.length → ltS (nthPlace xs j).code s = true → ltS (nthPlace xs i).code s = true := by
  intro i j hij hj hl
  by_cases e : i = j
  · rw [e]; exact hl
  · exact ltS_tr _ _ _ (reg_lt h i j (by omega) hj) hl
/-- The index of the first place with this code, -1 if there is none. -/
def fdI (xs : List PlaceV) (s : ByteArray) : Int := idxP (fun x => decide (x.code = s)) xs
theorem fd_hit {xs : List PlaceV} {s : ByteArray} (h : regB xs = true) (hb : fpB xs s = true) : fdI xs s = (fpI xs s : Nat) := by
  rw [fpB, Bool.and_eq_true, decide_eq_true_eq, decide_eq_true_eq] at hb
  refine idxP_at hb.1 (by rw [← nthPlace_eq hb.1]; simpa using hb.2) fun j hj hlt => ?_
  rw [← nthPlace_eq hj]
  have := reg_lt h j _ hlt hb.1
  rw [hb.2] at this
  simp only [decide_eq_false_iff_not]
  intro e
  rw [e] at this
  exact ltS_irr _ this
theorem fd_miss {xs : List PlaceV} {s : ByteArray} (h : regB xs = true) (hb : fpB xs s = false) : fdI xs s = -1 := by
  refine idxP_none fun j hj => ?_
  rw [← nthPlace_eq hj]
  simp only [decide_eq_false_iff_not]
  intro e
  have hp : fpI xs s = j := fpI_at (by omega) (fun t ht => by have := reg_lt h t j ht hj; rwa [e] at this) (fun t h1 h2 => by
    by_cases e2 : t = j
    · rw [e2, e]
      cases h3 : ltS s s
      · rfl
      · exact absurd h3 (ltS_irr _)
    · have h4 := reg_lt h j t (by omega) h2
      rw [e] at h4
      cases h3 : ltS (nthPlace xs t).code s
      · rfl
      · exact absurd (ltS_tr _ _ _ h4 h3) (ltS_irr _))
  rw [fpB, hp, e] at hb
  simp at hb
  omega
/-- The code of a register, something else and a year. -/
def codeP (xs : List PlaceV) (b : Bool) (y : Int) : Int := if (regB xs && b) = true then (if inB y (-3000) 3000 = true then 0 else 2) else 1
theorem codeP_bad {xs : List PlaceV} {b : Bool} {y : Int} (h : regB xs = false ∨ b = false) : codeP xs b y = 1 := by
  rw [codeP, if_neg]
  rcases h with h | h <;> simp [h]
theorem codeP_range {xs : List PlaceV} {b : Bool} {y : Int} (h : regB xs = true) (h1 : b = true) (h2 : inB y (-3000) 3000 = false) : codeP xs b y = 2 := by
  rw [codeP, h, h1, h2]; rfl
theorem codeP_ok {xs : List PlaceV} {b : Bool} {y : Int} (h : regB xs = true) (h1 : b = true) (h2 : inB y (-3000) 3000 = true) : codeP xs b y = 0 := by
  rw [codeP, h, h1, h2]; rfl
theorem codeP_zero {xs : List PlaceV} {b : Bool} {y : Int} (h : codeP xs b y = 0) : regB xs = true ∧ b = true ∧ inB y (-3000) 3000 = true := by
  cases hn : regB xs
  · rw [codeP_bad (.inl hn)] at h; cases h
  · cases hl : b
    · rw [codeP_bad (.inr hl)] at h; cases h
    · cases hy : inB y (-3000) 3000
      · rw [codeP_range hn hl hy] at h; cases h
      · exact ⟨rfl, rfl, rfl⟩
/-- What FindPlace answers. -/
def fdC (xs : List PlaceV) (s : ByteArray) : Int := if (regB xs && wordB s) = true then (if fpB xs s = true then 0 else 4) else 1
def fdV (xs : List PlaceV) (s : ByteArray) : Int := if (regB xs && wordB s) = true ∧ fpB xs s = true then (fpI xs s : Nat) else 0

end Go.Proofs.YtjelmidkkpchkaaGreatDoor

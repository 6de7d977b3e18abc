/-
  Spelling a word: the longest letter with which it begins, again and again: both sides.
-/
import Derived.Test.YtdicjpkcgeofjaaGreatDoorSA
import Derived.Deep.QuietTactic
import Derived.BigQuiet
namespace Go.Proofs.YtdicjpkcgeofjaaGreatDoor
open Go.RowKit

/-! The plain law. -/
def preB (p t : ByteArray) : Bool := decide (p.size ≤ t.size) && ((t.extract 0 p.size).toList == p.toList)
def nextS (ss : List ByteArray) (t : ByteArray) (b : Int) (i : Nat) : Int := if preB (nthS ss i) t && (decide (b < 0) || decide ((nthS ss b.toNat).size < (nthS ss i).size)) then (i : Int) else b
def nextA (ss : List ByteArray) (t : ByteArray) : Nat → Int
  | 0 => -1
  | k + 1 => nextS ss t (nextA ss t k) k
def nextK (ss : List ByteArray) (t : ByteArray) : Int := nextA ss t ss.length
theorem nextA_bd (ss : List ByteArray) (t : ByteArray) : ∀ k, -1 ≤ nextA ss t k ∧ nextA ss t k < k
  | 0 => by simp [nextA]
  | k + 1 => by
    have ih := nextA_bd ss t k
    rw [nextA, nextS]
    split <;> omega
theorem nextA_pre (ss : List ByteArray) (t : ByteArray) : ∀ k, 0 ≤ nextA ss t k → preB (nthS ss (nextA ss t k).toNat) t = true
  | 0 => by simp [nextA]
  | k + 1 => by
    have ih := nextA_pre ss t k
    rw [nextA, nextS]
    intro h
    by_cases hc : (preB (nthS ss k) t && (decide (nextA ss t k < 0) || decide ((nthS ss (nextA ss t k).toNat).size < (nthS ss k).size))) = true
    · rw [if_pos hc] at h ⊢
      rw [Bool.and_eq_true] at hc
      exact hc.1
    · rw [if_neg hc] at h ⊢
      exact ih h
theorem nextA_no {ss : List ByteArray} {t : ByteArray} {k : Nat} (h : preB (nthS ss k) t = false) : nextA ss t (k + 1) = nextA ss t k := by
  rw [nextA, nextS, h]; rfl
theorem nextA_first {ss : List ByteArray} {t : ByteArray} {k : Nat} (h : preB (nthS ss k) t = true) (hb : nextA ss t k < 0) : nextA ss t (k + 1) = k := by
  rw [nextA, nextS, h]; simp [hb]
theorem nextA_longer {ss : List ByteArray} {t : ByteArray} {k : Nat} (h : preB (nthS ss k) t = true) (hb : (nthS ss (nextA ss t k).toNat).size < (nthS ss k).size) : nextA ss t (k + 1) = k := by
  rw [nextA, nextS, h]; simp [hb]
theorem nextA_stay {ss : List ByteArray} {t : ByteArray} {k : Nat} (h : 0 ≤ nextA ss t k) (hb : ¬ (nthS ss (nextA ss t k).toNat).size < (nthS ss k).size) : nextA ss t (k + 1) = nextA ss t k := by
  rw [nextA, nextS, if_neg]
  simp [hb]
  intro _
  exact h
/-- The rest of a word behind its first letter. -/
def restW (ss : List ByteArray) (t : ByteArray) : ByteArray := t.extract (nthS ss (nextK ss t).toNat).size t.size
theorem restW_size (ss : List ByteArray) (t : ByteArray) : (restW ss t).size = t.size - (nthS ss (nextK ss t).toNat).size := by
  rw [restW, ByteArray.size_extract]; omega
/-- The spelling with so many letters at most. -/
def spellF (ss : List ByteArray) : Nat → ByteArray → Option (List Int)
  | 0, t => if t.size = 0 then some [] else none
  | f + 1, t => if t.size = 0 then some [] else if nextK ss t < 0 then none else (spellF ss f (restW ss t)).map (nextK ss t :: ·)
def lettersOk (ss : List ByteArray) : Prop := ∀ s ∈ ss, 0 < s.size
theorem next_size {ss : List ByteArray} (hl : lettersOk ss) {t : ByteArray} (h : ¬ nextK ss t < 0) : 0 < (nthS ss (nextK ss t).toNat).size ∧ (nthS ss (nextK ss t).toNat).size ≤ t.size ∧ (nextK ss t).toNat < ss.length := by
  have h1 := nextA_bd ss t ss.length
  have h2 := nextA_pre ss t ss.length (by have : nextK ss t = nextA ss t ss.length := rfl; omega)
  have hlt : (nextK ss t).toNat < ss.length := by have : nextK ss t = nextA ss t ss.length := rfl; omega
  refine ⟨hl _ (nthS_mem hlt), ?_, hlt⟩
  rw [preB, Bool.and_eq_true, decide_eq_true_eq] at h2
  exact h2.1
theorem spellF_fuel {ss : List ByteArray} (hl : lettersOk ss) : ∀ (f g : Nat) (t : ByteArray), t.size ≤ f → t.size ≤ g → spellF ss f t = spellF ss g t
  | 0, 0, _, _, _ => rfl
  | 0, g + 1, t, h, _ => by rw [spellF, spellF, if_pos (by omega), if_pos (by omega)]
  | f + 1, 0, t, _, h => by rw [spellF, spellF, if_pos (by omega), if_pos (by omega)]
  | f + 1, g + 1, t, h1, h2 => by
    rw [spellF, spellF]
    by_cases h0 : t.size = 0
    · rw [if_pos h0, if_pos h0]
    · rw [if_neg h0, if_neg h0]
      by_cases hn : nextK ss t < 0
      · rw [if_pos hn, if_pos hn]
      · rw [if_neg hn, if_neg hn]
        have := next_size hl hn
        have hs := restW_size ss t
        rw [spellF_fuel hl f g (restW ss t) (by omega) (by omega)]
def spellO (ss : List ByteArray) (t : ByteArray) : Option (List Int) := spellF ss t.size t
theorem spellO_nil {ss : List ByteArray} {t : ByteArray} (h : t.size = 0) : spellO ss t = some [] := by rw [spellO, h, spellF, if_pos h]
theorem spellO_bad {ss : List ByteArray} {t : ByteArray} (h : t.size ≠ 0) (hn : nextK ss t < 0) : spellO ss t = none := by
  obtain ⟨f, hf⟩ : ∃ f, t.size = f + 1 := ⟨t.size - 1, by omega⟩
  rw [spellO, hf, spellF, if_neg h, if_pos hn]
theorem spellO_cons {ss : List ByteArray} (hl : lettersOk ss) {t : ByteArray} (h : t.size ≠ 0) (hn : ¬ nextK ss t < 0) : spellO ss t = (spellO ss (restW ss t)).map (nextK ss t :: ·) := by
  obtain ⟨f, hf⟩ : ∃ f, t.size = f + 1 := ⟨t.size - 1, by omega⟩
  have := next_size hl hn
  have hs := restW_size ss t
  rw [spellO, hf, spellF, if_neg h, if_neg hn, spellO, spellF_fuel hl f (restW ss t).size _ (by omega) (Nat.le_refl _)]
theorem alpha_letters {ss : List ByteArray} (h : alphaB ss = true) : lettersOk ss := fun s hs => by
  rw [alphaB, Bool.and_eq_true, firstsA, List.all_eq_true] at h
  obtain ⟨k, hk, rfl⟩ := List.getElem_of_mem hs
  have := h.1 k (List.mem_range.2 hk)
  rw [Bool.and_eq_true, nthS_eq hk, smallB, Bool.and_eq_true, inB_iff] at this
  omega
theorem emptyS_ne {s : ByteArray} (h : s.size ≠ 0) : s.toList.isEmpty = false := by
  cases hb : s.toList.isEmpty
  · rfl
  · rw [ByteArray.toList_eq, List.isEmpty_iff] at hb
    exact absurd (by rw [← ByteArray.size_data, ← Array.length_toList, hb]; rfl) h
theorem emptyS_eq {s : ByteArray} (h : s.size = 0) : s = ⟨#[]⟩ := by
  apply ByteArray.ext
  exact Array.size_eq_zero_iff.1 h
def szV : Value → Nat | .string s => s.size | _ => 0

/-! The walks. -/
theorem hasPrefixLite_any (s p : ByteArray) (w : World) :
    Calls Tryz.prog 110 #[.string s, .string p] w fun e w' => e = .returned (.bool (preB p s)) ∧ w = w' := by
  go_enter Tryz.func110, Tryz.ntmps110
  by_cases h : p.size ≤ s.size
  · have hi : (p.size : Int) ≤ s.size := by omega
    go_wp2
    go_ret
    exact ⟨ret_bool (by rw [preB]; simp [h]), rfl⟩
  · have hi : ¬ (p.size : Int) ≤ s.size := by omega
    go_wp2
    go_ret
    exact ⟨ret_bool (by rw [preB]; simp [h]), rfl⟩
theorem hasPrefix_any (s p : ByteArray) (w : World) :
    Calls Tryz.prog 88 #[.string s, .string p] w fun e w' => e = .returned (.bool (preB p s)) ∧ w = w' := by
  go_enter Tryz.func88, Tryz.ntmps88
  go_wp2_with (go_at_call 110; refine (hasPrefixLite_any _ _ _).mono ?_; rintro e w' ⟨rfl, rfl⟩)
  go_ret
  exact ⟨rfl, rfl⟩

set_option maxRecDepth 100000 in
set_option maxHeartbeats 1000000 in
theorem l03Next_any (a : Option Addr) (n c : Nat) (t : ByteArray) (ss : List ByteArray) (w : World) (hr : RdS w a n ss) :
    Calls Tryz.prog 80 #[.slice a n c, .string t] w fun e w' => e = .returned (.int .i64 (nextK ss t)) ∧ Still w w' := by
  have hm := hr.le
  have hln := hr.len
  go_enter Tryz.func80, Tryz.ntmps80
  go_wp2
  go_loopw [5, 6] (fun v i wr => ∃ k : Nat, k ≤ n ∧ i = .int .i64 k ∧ v = .int .i64 (nextA ss t k) ∧ Still w wr) (fun _ i _ => n - (intOf i).toNat)
  case atStart => exact ⟨0, Nat.zero_le _, rfl, rfl, Still.refl _⟩
  case round =>
    obtain ⟨k, hk, rfl, rfl, hs⟩ := hrel
    by_cases hlt : k < n
    · obtain ⟨b, o, rfl, hbl, hc⟩ := (hr.ext hs.ext).at (by omega)
      have hck := hc k hlt
      have hsz := hr.size hlt
      have hki : (k : Int) < n := by omega
      have hbd := nextA_bd ss t k
      by_cases hle : (nthS ss k).size ≤ t.size
      · have hlei : ((nthS ss k).size : Int) ≤ t.size := by omega
        cases he : ((t.extract 0 (nthS ss k).size).toList == (nthS ss k).toList)
        · have HE := Lib.hid (nextA_no (ss := ss) (t := t) (k := k) (by rw [preB, he, Bool.and_false]))
          clear hc
          go_wp2
          go_quiet (fail)
          go_wp2
          go_roundw
          case rel => exact ⟨k + 1, by omega, by go_num, by rw [HE.out], hs.drewN _⟩
          case measure => simp [intOf]; omega
        · have hp : preB (nthS ss k) t = true := by rw [preB, he, Bool.and_true]; simpa using hle
          by_cases hb : nextA ss t k < 0
          · have HE := Lib.hid (nextA_first hp hb)
            clear hc hp
            go_wp2
            go_quiet (fail)
            go_wp2
            go_roundw
            case rel => exact ⟨k + 1, by omega, by go_num, by rw [HE.out], hs.drewN _⟩
            case measure => simp [intOf]; omega
          · obtain ⟨j, hj⟩ := Int.eq_ofNat_of_zero_le (by omega : 0 ≤ nextA ss t k)
            have hcj := hc j (by omega)
            have HB := Lib.hid (And.intro (nextA_longer (k := k) hp) (nextA_stay (ss := ss) (t := t) (k := k) (by omega)))
            rw [hj] at HB hb ⊢
            have hjn : (j : Int) < n := by omega
            clear hc hp hbd
            by_cases hz : (nthS ss j).size < (nthS ss k).size
            · have hzi : ((nthS ss j).size : Int) < (nthS ss k).size := by omega
              have HE := Lib.hid (HB.out.1 (by simpa using hz))
              clear HB
              go_wp2
              go_quiet (fail)
              go_wp2
              go_roundw
              case rel => exact ⟨k + 1, by omega, by go_num, by rw [HE.out], hs.drewN _⟩
              case measure => simp [intOf]; omega
            · have hzi : ¬ ((nthS ss j).size : Int) < (nthS ss k).size := by omega
              have HE := Lib.hid (HB.out.2 (by simpa using hz))
              clear HB
              go_wp2
              go_quiet (fail)
              go_wp2
              go_roundw
              case rel => exact ⟨k + 1, by omega, by go_num, by rw [HE.out], hs.drewN _⟩
              case measure => simp [intOf]; omega
      · have hlei : ¬ ((nthS ss k).size : Int) ≤ t.size := by omega
        have HE := Lib.hid (nextA_no (ss := ss) (t := t) (k := k) (by rw [preB, decide_eq_false hle]; rfl))
        clear hc
        go_wp2
        go_quiet (fail)
        go_wp2
        go_roundw
        case rel => exact ⟨k + 1, by omega, by go_num, by rw [HE.out], hs.drewN _⟩
        case measure => simp [intOf]; omega
    · obtain rfl : k = n := by omega
      go_wp2
      go_ret
      exact ⟨by rw [show nextK ss t = nextA ss t k from by rw [nextK, hln]]; rfl, hs⟩

/-- What spelling returns. -/
def RetSp (w : World) (o : Option (List Int)) (e : Ending) (w' : World) : Prop :=
  ∃ v, e = .returned (.tuple #[v, .bool o.isSome]) ∧ ∃ (a : Option Addr) (c : Nat), v = .slice a (o.getD []).length c ∧ OwnI w' w.heap.size a (o.getD []).length c (o.getD []) ∧ Ext w w'

set_option maxRecDepth 100000 in
set_option maxHeartbeats 1000000 in
theorem l03Spell_any (a : Option Addr) (n c : Nat) (t : ByteArray) (ss : List ByteArray) (w : World) (hr : RdS w a n ss) (ht : t.size ≤ 1073741824) (hl : lettersOk ss) :
    Calls Tryz.prog 52 #[.slice a n c, .string t] w (RetSp w (spellO ss t)) := by
  have hm := hr.le
  have hln := hr.len
  go_enter Tryz.func52, Tryz.ntmps52
  go_wp2
  go_loopw [1, 6] (fun s l wr => ∃ (u : ByteArray) (zs : List Int) (a1 : Option Addr) (c1 : Nat), s = .string u ∧ l = .slice a1 zs.length c1 ∧ zs.length + u.size ≤ t.size ∧ (spellO ss u).map (zs ++ ·) = spellO ss t ∧ OwnI wr w.heap.size a1 zs.length c1 zs ∧ Ext w wr) (fun s _ _ => szV s)
  case atStart => exact ⟨t, [], _, _, rfl, rfl, by simp, by cases spellO ss t <;> rfl, ⟨OwnI.lit0 w (Nat.le_refl _), by decide⟩, (Ext.refl _).alloc _⟩
  case round =>
    obtain ⟨u, zs, a1, c1, rfl, rfl, hu, hsp, ho, hx⟩ := hrel
    have HS := Lib.hid hsp
    clear hsp
    by_cases hz : u.size = 0
    · obtain rfl := emptyS_eq hz
      have e : spellO ss t = some zs := by rw [← HS.out, spellO_nil rfl]; simp
      have HE := Lib.hid e
      clear e
      go_wp2
      go_ret2
      rw [HE.out]
      exact ⟨_, rfl, a1, c1, rfl, ho, hx⟩
    · have hne := emptyS_ne hz
      go_wp2_with fail
      refine (l03Next_any _ _ _ _ _ _ (hr.ext hx)).mono ?_
      rintro e w1 ⟨rfl, s1⟩
      by_cases hn : nextK ss u < 0
      · have e : spellO ss t = none := by rw [← HS.out, spellO_bad hz hn]; rfl
        have HE := Lib.hid e
        have x1 := hx.trans s1.ext
        clear e
        go_wp2
        go_ret2
        rw [HE.out]
        exact ⟨_, rfl, none, 0, rfl, ⟨OwnI.isNil _ _, by decide⟩, x1⟩
      · obtain ⟨h1, h2, h3⟩ := next_size hl hn
        have HC := Lib.hid (spellO_cons hl hz hn)
        have hrs := restW_size ss u
        have HR := Lib.hid (show restW ss u = u.extract (nthS ss (nextK ss u).toNat).size u.size from rfl)
        obtain ⟨k, hk⟩ := Int.eq_ofNat_of_zero_le (by omega : 0 ≤ nextK ss u)
        rw [hk] at hn h1 h2 h3 HC hrs HR ⊢
        simp only [Int.toNat_natCast] at h1 h2 h3 hrs HR
        have hkn : (k : Int) < n := by omega
        have hoE := ho.ext s1.ext
        have hxE := hx.trans s1.ext
        have h2i : ((nthS ss k).size : Int) ≤ u.size := by omega
        clear ho hx s1
        go_wp2_with (first | (at_builtin; refine wpList_appI rfl _ _ rfl w.heap.size _ zs.length zs rfl (hoE.alloc _) _ 1 _ [(k : Int)] rfl (RdI.new1 _ _ _) (by omega) (hxE.le_alloc _) ?_; intro a2 c2 w2 hown hgrow; have hb2 := hxE.app hoE (Nat.le_refl _) hgrow; obtain ⟨b, o, rfl, hbl, hc⟩ := (hr.ext hb2).at (by omega); have hck := hc k (by omega); have HO := Lib.hid hown; clear hown hc))
        go_roundw
        case rel => exact ⟨restW ss u, zs ++ [(k : Int)], a2, c2, by rw [HR.out], by simp, by simp only [List.length_append, List.length_singleton]; omega, by rw [← HS.out, HC.out, Option.map_map]; congr 1; funext l; simp, by simpa using HO.out, hb2⟩
        case measure => rw [← HR.out]; simp only [szV]; omega

set_option maxRecDepth 100000 in
set_option maxHeartbeats 1000000 in
theorem implSpell_any (a : Option Addr) (n c : Nat) (t : ByteArray) (ss : List ByteArray) (w : World) (hr : RdS w a n ss) (ht : t.size ≤ 1073741824) (hl : lettersOk ss) :
    Calls Tryz.prog 61 #[.slice a n c, .string t] w (RetSp w (spellO ss t)) := by
  have hm := hr.le
  have hln := hr.len
  go_enter Tryz.func61, Tryz.ntmps61
  go_wp2
  go_loopw [1, 6] (fun s l wr => ∃ (u : ByteArray) (zs : List Int) (a1 : Option Addr) (c1 : Nat), s = .string u ∧ l = .slice a1 zs.length c1 ∧ zs.length + u.size ≤ t.size ∧ (spellO ss u).map (zs ++ ·) = spellO ss t ∧ OwnI wr w.heap.size a1 zs.length c1 zs ∧ Ext w wr) (fun s _ _ => szV s)
  case atStart => exact ⟨t, [], _, _, rfl, rfl, by simp, by cases spellO ss t <;> rfl, ⟨OwnI.isNil _ _, by decide⟩, Ext.refl _⟩
  case round =>
    obtain ⟨u, zs, a1, c1, rfl, rfl, hu, hsp, ho, hx⟩ := hrel
    have HS := Lib.hid hsp
    clear hsp
    by_cases hz : u.size = 0
    · obtain rfl := emptyS_eq hz
      have e : spellO ss t = some zs := by rw [← HS.out, spellO_nil rfl]; simp
      have HE := Lib.hid e
      clear e
      go_wp2
      go_ret2
      rw [HE.out]
      exact ⟨_, rfl, a1, c1, rfl, ho, hx⟩
    · have hne := emptyS_ne hz
      go_wp2
      go_loopw [7, 14] (fun v i w2 => ∃ j : Nat, j ≤ n ∧ i = .int .i64 j ∧ v = .int .i64 (nextA ss u j) ∧ wr = w2) (fun _ i _ => n - (intOf i).toNat)
      case atStart => exact ⟨0, Nat.zero_le _, rfl, rfl, rfl⟩
      case round =>
        obtain ⟨k, hk, rfl, rfl, rfl⟩ := hrel
        by_cases hlt : k < n
        · obtain ⟨b, o, rfl, hbl, hc⟩ := (hr.ext hx).at (by omega)
          have hck := hc k hlt
          have hsz := hr.size hlt
          have hki : (k : Int) < n := by omega
          have hbd := nextA_bd ss u k
          cases hp : preB (nthS ss k) u
          · have HE := Lib.hid (And.intro hp (nextA_no hp))
            clear hc hp
            go_wp2_with (go_at_call 88; refine (hasPrefix_any _ _ _).mono ?_; rintro e w' ⟨rfl, rfl⟩; rw [HE.out.1])
            go_roundw
            case rel => exact ⟨k + 1, by omega, by go_num, by rw [HE.out.2], trivial⟩
            case measure => simp [intOf]; omega
          · by_cases hb : nextA ss u k < 0
            · have HE := Lib.hid (And.intro hp (nextA_first hp hb))
              clear hc hp
              go_wp2_with (go_at_call 88; refine (hasPrefix_any _ _ _).mono ?_; rintro e w' ⟨rfl, rfl⟩; rw [HE.out.1])
              go_roundw
              case rel => exact ⟨k + 1, by omega, by go_num, by rw [HE.out.2], trivial⟩
              case measure => simp [intOf]; omega
            · obtain ⟨j, hj⟩ := Int.eq_ofNat_of_zero_le (by omega : 0 ≤ nextA ss u k)
              have hcj := hc j (by omega)
              have HB := Lib.hid (And.intro (nextA_longer (k := k) hp) (nextA_stay (ss := ss) (t := u) (k := k) (by omega)))
              have HP := Lib.hid hp
              rw [hj] at HB hb ⊢
              have hjn : (j : Int) < n := by omega
              clear hc hp hbd
              by_cases hzz : (nthS ss j).size < (nthS ss k).size
              · have hzi : ((nthS ss j).size : Int) < (nthS ss k).size := by omega
                have HE := Lib.hid (HB.out.1 (by simpa using hzz))
                clear HB
                go_wp2_with (go_at_call 88; refine (hasPrefix_any _ _ _).mono ?_; rintro e w' ⟨rfl, rfl⟩; rw [HP.out])
                go_roundw
                case rel => exact ⟨k + 1, by omega, by go_num, by rw [HE.out], trivial⟩
                case measure => simp [intOf]; omega
              · have hzi : ¬ ((nthS ss j).size : Int) < (nthS ss k).size := by omega
                have HE := Lib.hid (HB.out.2 (by simpa using hzz))
                clear HB
                go_wp2_with (go_at_call 88; refine (hasPrefix_any _ _ _).mono ?_; rintro e w' ⟨rfl, rfl⟩; rw [HP.out])
                go_roundw
                case rel => exact ⟨k + 1, by omega, by go_num, by rw [HE.out], trivial⟩
                case measure => simp [intOf]; omega
        · obtain rfl : k = n := by omega
          rw [show nextA ss u k = nextK ss u from by rw [nextK, hln]]
          by_cases hn : nextK ss u < 0
          · have e : spellO ss t = none := by rw [← HS.out, spellO_bad hz hn]; rfl
            have HE := Lib.hid e
            clear e
            go_wp2
            go_ret2
            rw [HE.out]
            exact ⟨_, rfl, none, 0, rfl, ⟨OwnI.isNil _ _, by decide⟩, hx⟩
          · obtain ⟨h1, h2, h3⟩ := next_size hl hn
            have HC := Lib.hid (spellO_cons hl hz hn)
            have hrs := restW_size ss u
            have HR := Lib.hid (show restW ss u = u.extract (nthS ss (nextK ss u).toNat).size u.size from rfl)
            obtain ⟨q, hq⟩ := Int.eq_ofNat_of_zero_le (by omega : 0 ≤ nextK ss u)
            rw [hq] at hn h1 h2 h3 HC hrs HR ⊢
            simp only [Int.toNat_natCast] at h1 h2 h3 hrs HR
            have hkn : (q : Int) < k := by omega
            have h2i : ((nthS ss q).size : Int) ≤ u.size := by omega
            go_wp2_with (first | (at_builtin; refine wpList_appI rfl _ _ rfl w.heap.size _ zs.length zs rfl (ho.alloc _) _ 1 _ [(q : Int)] rfl (RdI.new1 _ _ _) (by omega) (hx.le_alloc _) ?_; intro a2 c2 w2 hown hgrow; have hb2 := hx.app ho (Nat.le_refl _) hgrow; obtain ⟨b, o, rfl, hbl, hc⟩ := (hr.ext hb2).at (by omega); have hck := hc q (by omega); have HO := Lib.hid hown; clear hown hc))
            go_roundw
            case rel => exact ⟨restW ss u, zs ++ [(q : Int)], a2, c2, by rw [HR.out], by simp, by simp only [List.length_append, List.length_singleton]; omega, by rw [← HS.out, HC.out, Option.map_map]; congr 1; funext l; simp, by simpa using HO.out, hb2⟩
            case measure => rw [← HR.out]; simp only [szV]; omega

end Go.Proofs.YtdicjpkcgeofjaaGreatDoor

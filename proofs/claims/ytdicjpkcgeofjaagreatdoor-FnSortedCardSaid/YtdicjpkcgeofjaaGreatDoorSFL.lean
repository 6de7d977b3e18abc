/-
  The letters with which phrases begin: both sides.
-/
import Derived.Test.YtdicjpkcgeofjaaGreatDoorSKY
import Derived.Test.YtdicjpkcgeofjaaGreatDoorSJ
import Derived.Test.YtdicjpkcgeofjaaGreatDoorM0
namespace Go.Proofs.YtdicjpkcgeofjaaGreatDoor
open Go.RowKit

/-- The first letter of a phrase. -/
def fst1 (ss : List ByteArray) (s : ByteArray) : Int := nth (nthW (spL ss s) 0) 0
def hasF (ss ls : List ByteArray) (z : Int) : Bool := ls.any fun s => fst1 ss s == z
def flL (ss ls : List ByteArray) : List Int := if codeL ss ls [] = 0 then selN ss.length (fun k => hasF ss ls k) else []
theorem selN_mem {n : Nat} {p : Nat → Bool} {z : Int} : z ∈ selN n p ↔ ∃ k : Nat, k < n ∧ p k = true ∧ z = k := by
  simp only [selN, List.mem_map, List.mem_filter, List.mem_range]
  constructor
  · rintro ⟨k, ⟨h1, h2⟩, rfl⟩; exact ⟨k, h1, h2, rfl⟩
  · rintro ⟨k, h1, h2, rfl⟩; exact ⟨k, ⟨h1, h2⟩, rfl⟩
theorem selN_up (n : Nat) (p : Nat → Bool) : (selN n p).Pairwise fun a b => a < b := by
  rw [selN, List.pairwise_map]
  refine List.Pairwise.filter _ (List.pairwise_lt_range.imp ?_)
  intro a b h
  omega
theorem splitC_pos (c : UInt8) (s : ByteArray) : 0 < (splitC c s).length := by
  rw [splitC, List.length_map]
  cases s.data.toList with
  | nil => simp [splitL]
  | cons b l =>
    rw [splitL]
    split
    · simp
    · cases splitL c l <;> simp
theorem spellF_ne {ss : List ByteArray} {f : Nat} {t : ByteArray} {l : List Int} (h : spellF ss f t = some l) (ht : t.size ≠ 0) : l ≠ [] := by
  cases f with
  | zero => rw [spellF, if_neg ht] at h; cases h
  | succ f =>
    rw [spellF, if_neg ht] at h
    split at h
    · cases h
    · rw [Option.map_eq_some_iff] at h
      obtain ⟨r, _, rfl⟩ := h
      simp
/-- A phrase that can be written has a first word, that has a first letter. -/
theorem first_ok {ss : List ByteArray} {s : ByteArray} (hp : phraseB s = true) (hc : canB ss s = true) : 0 < (spL ss s).length ∧ 0 < (nthW (spL ss s) 0).length ∧ 0 ≤ fst1 ss s ∧ fst1 ss s < ss.length := by
  have hn : 0 < (splitC 32 s).length := splitC_pos 32 s
  have hl : (spL ss s).length = (splitC 32 s).length := by rw [spL, List.length_map]
  have h0 : 0 < (spL ss s).length := by omega
  have e : nthW (spL ss s) 0 = sp1 ss ((splitC 32 s)[0]) := by rw [nthW_eq h0]; simp [spL]
  have hw := word_len (phrase_words hp _ (List.getElem_mem hn))
  have hs := spellsO_isSome (show (spellsO ss (splitC 32 s)).isSome = true from hc) hn
  rw [nthS_eq hn] at hs
  obtain ⟨l, hl2⟩ := Option.isSome_iff_exists.1 hs
  have h1 : 0 < (nthW (spL ss s) 0).length := by
    rw [e, sp1, hl2, Option.getD_some]
    have := spellF_ne hl2 (by omega)
    exact List.length_pos_iff.2 this
  refine ⟨h0, h1, ?_⟩
  rw [fst1, nth_eq h1]
  have := (sp1_ok ss (splitC 32 s)[0]).2 ((nthW (spL ss s) 0)[0]) (by rw [← e]; exact List.getElem_mem h1)
  exact this
theorem fl_sorted {ss ls : List ByteArray} (h : ∀ s ∈ ls, 0 ≤ fst1 ss s ∧ fst1 ss s < ss.length) : sortI (ls.map (fst1 ss)) = selN ss.length (fun k => hasF ss ls k) := by
  refine sortI_eq (selN_up _ _) fun x => ?_
  rw [selN_mem, List.mem_map]
  constructor
  · rintro ⟨k, hk, hp, rfl⟩
    rw [hasF, List.any_eq_true] at hp
    obtain ⟨s, hs, he⟩ := hp
    exact ⟨s, hs, by simpa using he⟩
  · rintro ⟨s, hs, rfl⟩
    obtain ⟨h0, h1⟩ := h s hs
    refine ⟨(fst1 ss s).toNat, by omega, ?_, by omega⟩
    rw [hasF, List.any_eq_true]
    exact ⟨s, hs, by simp; omega⟩
theorem hasF_snoc {ss ls : List ByteArray} {k : Nat} {z : Int} (hk : k < ls.length) : hasF ss (ls.take (k + 1)) z = (hasF ss (ls.take k) z || (fst1 ss (nthS ls k) == z)) := by
  rw [List.take_succ_eq_append_getElem hk, hasF, List.any_append, ← nthS_eq hk]
  simp [hasF]

set_option maxRecDepth 100000 in
set_option maxHeartbeats 2000000 in
theorem implFirstLetters_any (a a3 : Option Addr) (n c q c3 : Nat) (ss ls : List ByteArray) (w : World) (hr : RdS w a n ss) (hcap : n ≤ c) (hr3 : RdS w a3 q ls) (hmax : MaxW w) :
    Calls Tryz.prog 15 #[.slice a n c, .slice a3 q c3] w (RetLC w (flL ss ls) (codeL ss ls [])) := by
  have hln := hr3.len
  have hm := hr3.le
  go_enter Tryz.func15, Tryz.ntmps15
  go_wp2_with fail
  refine (listSorter_any _ _ _ _ _ _ _ _ _ _ _ [] _ hr hcap (RdI.nil _ _) hr3 hmax).mono ?_
  rintro e w1 ⟨ua, un, uc, va, vn, vc, rfl, _, x1⟩
  have x2 := x1.alloc (.cells #[.slice ua un uc, .slice va vn vc] 46)
  cases hc : (codeL ss ls [] == 0)
  · have HC := Lib.hid (show flL ss ls = [] from if_neg (by simpa using hc))
    go_wp2
    go_ret2
    rw [HC.out]
    exact ⟨_, rfl, NewI.nil _ _ x2⟩
  have h0 : codeL ss ls [] = 0 := by simpa using hc
  have hok := code_ok h0 hr3.2
  have hl := hok.1
  have hz := hok.2.1
  have hfl : flL ss ls = sortI (ls.map (fst1 ss)) := by
    rw [flL, if_pos h0, fl_sorted fun s hs => (first_ok (hz s hs).2.1 (hz s hs).2.2).2.2]
  have HC := Lib.hid (And.intro hfl h0)
  have HZ := Lib.hid hz
  have HR := Lib.hid (And.intro (hr.ext x2) (And.intro (hr3.ext x2) (And.intro (hmax.ext x2) x2)))
  clear hok h0 hfl hz x1 x2
  go_wp2
  rw [show (codeL ss ls [] != 0) = false by rw [bne, hc]; rfl]
  generalize w1.alloc (.cells #[.slice ua un uc, .slice va vn vc] 46) = wb at HR ⊢
  go_loopw [8, 24] (fun v i wr => ∃ (k : Nat) (l : List Int) (a4 : Option Addr) (c4 : Nat), k ≤ q ∧ i = .int .i64 k ∧ v = .slice a4 l.length c4 ∧ l = (ls.take k).map (fst1 ss) ∧ OwnI wr wb.heap.size a4 l.length c4 l ∧ Ext wb wr) (fun _ i _ => q - (intOf i).toNat)
  case atStart => exact ⟨0, [], none, 0, Nat.zero_le _, rfl, rfl, rfl, ⟨OwnI.isNil _ _, by decide⟩, Ext.refl _⟩
  case round =>
    obtain ⟨k, l, a4, c4, hk, rfl, rfl, hle, ho, hx⟩ := hrel
    have hlk : l.length = k := by rw [hle, List.length_map, List.length_take]; omega
    have HL := Lib.hid hle
    clear hle
    by_cases hlt : k < q
    · have hki : (k : Int) < q := by omega
      obtain ⟨b, o, rfl, hbl, hA⟩ := (HR.out.2.1.ext hx).at (by omega)
      have hck := hA k hlt
      have hkz := HZ.out (nthS ls k) (nthS_mem (by omega))
      obtain ⟨f1, f2, f3, f4⟩ := first_ok hkz.2.1 hkz.2.2
      have HS := Lib.hid (can_spells hkz.2.2)
      have hsz := hkz.1
      have HF := Lib.hid (show nth (nthW (spL ss (nthS ls k)) 0) 0 = fst1 ss (nthS ls k) from rfl)
      clear hA hkz f3 f4
      go_wp2_with fail
      refine (spelled_any _ _ _ _ _ _ (HR.out.1.ext hx) hsz hl (HR.out.2.2.1.ext hx)).mono ?_
      rw [HS.out]
      rintro e w3 ⟨a5, c5, rfl, r5, x5⟩
      simp only [Option.getD_some, Option.isSome_some] at r5 ⊢
      generalize spL ss (nthS ls k) = zss at r5 HF f1 f2 ⊢
      have hi1 : (0 : Int) < zss.length := by omega
      have hi2 : (0 : Int) < (nthW zss 0).length := by omega
      obtain ⟨b5, o5, rfl, hb5, hA5⟩ := r5.at f1
      obtain ⟨pa, pc, hc5, hp⟩ := rdgr_at hA5 f1
      obtain ⟨b6, o6, rfl, hb6, hA6⟩ := hp.at f2
      have hc6 := hA6 0 f2
      rw [HF.out] at hc6
      simp only [Nat.add_zero] at hc5 hc6
      have hoE := ho.ext x5
      have hxE := hx.trans x5
      clear hA5 hA6 ho hx x5 hck r5 hp
      go_wp2_with (first | (at_builtin; refine wpList_appI rfl _ _ rfl wb.heap.size _ l.length l rfl (hoE.alloc _) _ 1 _ [fst1 ss (nthS ls k)] rfl (RdI.new1 _ _ _) (by omega) (hxE.le_alloc _) ?_; intro a6 c6 w6 hown hgrow; have hb7 := hxE.app hoE (Nat.le_refl _) hgrow; have HQ := Lib.hid (And.intro hown hb7); clear hown hb7))
      go_roundw
      case rel => exact ⟨k + 1, l ++ [fst1 ss (nthS ls k)], a6, c6, by omega, by go_num, by simp [hlk], by rw [HL.out, List.take_succ_eq_append_getElem (by omega), List.map_append, ← nthS_eq (by omega)]; rfl, by simpa using HQ.out.1, HQ.out.2⟩
      case measure => simp [intOf]; omega
    · obtain rfl : k = q := by omega
      have hle : l = ls.map (fst1 ss) := by rw [HL.out, List.take_of_length_le (by omega)]
      have HE := Lib.hid (show flL ss ls = sortI l by rw [HC.out.1, hle])
      clear hle
      have hX := HR.out.2.2.2
      rw [hlk] at ho
      rcases own_addr ho.1 with rfl | ⟨g, rfl⟩
      · obtain ⟨h0, rfl⟩ := ho.rd.isNone
        subst h0
        have hc0 : c4 = 0 := by
          rcases ho.1.2 with ⟨h1, _⟩ | ⟨g, cap, cur, hv, _⟩
          · cases h1; rfl
          · cases hv
        subst hc0
        try simp only [List.length_nil]
        go_wp2_with fail
        refine (Tryz.slices_Sort_i64_none none 0 _).mono ?_
        rintro e w1 ⟨rfl, rfl⟩
        go_wp2_with fail
        refine (Tryz.slices_Compact_i64_empty none 0 _).mono ?_
        rintro e w2 ⟨rfl, rfl⟩
        go_wp2
        go_ret2
        rw [HE.out, HC.out.2, show sortI [] = [] by simp [sortI, Lib.compact, Lib.compactUpTo]]
        exact ⟨_, rfl, NewI.nil _ _ (hX.trans hx)⟩
      · go_wp2_with fail
        refine (sortI64_any _ _ _ _ _ _ ho).mono ?_
        rintro e w1 ⟨rfl, o1, b1⟩
        go_wp2_with fail
        refine (compactI64_any _ _ _ _ _ _ o1).mono ?_
        rintro e w2 ⟨rfl, o2, b2⟩
        go_wp2
        go_ret2
        rw [HE.out, HC.out.2]
        exact ⟨_, rfl, _, _, _, rfl, o2.mono hX.size, hX.trans (Below.trans hx (Below.trans b1 b2))⟩

set_option maxRecDepth 100000 in
set_option maxHeartbeats 2000000 in
theorem specFirstLetters_any (a a3 : Option Addr) (n c q c3 : Nat) (ss ls : List ByteArray) (w : World) (hr : RdS w a n ss) (hr3 : RdS w a3 q ls) :
    Calls Tryz.prog 16 #[.slice a n c, .slice a3 q c3] w (RetLC w (flL ss ls) (codeL ss ls [])) := by
  have hln := hr3.len
  have hm := hr3.le
  have hln1 := hr.len
  have hm1 := hr.le
  have xb := (Ext.refl w).alloc (.cells #[] 2)
  go_enter Tryz.func16, Tryz.ntmps16
  go_wp2_with fail
  refine (l06Code_any _ _ _ _ _ _ _ _ _ _ _ [] _ (hr.ext xb) (hr3.ext xb) (RdI.nil _ _)).mono ?_
  rintro e w1 ⟨rfl, x1⟩
  have x2 := xb.trans x1
  cases hc : (codeL ss ls [] == 0)
  · have HC := Lib.hid (show flL ss ls = [] from if_neg (by simpa using hc))
    go_wp2
    go_ret2
    rw [HC.out]
    exact ⟨_, rfl, NewI.nil _ _ x2⟩
  have h0 : codeL ss ls [] = 0 := by simpa using hc
  have hok := code_ok h0 hr3.2
  have hl := hok.1
  have HC := Lib.hid (And.intro (show flL ss ls = selN ss.length (fun k => hasF ss ls k) from if_pos h0) h0)
  have HZ := Lib.hid hok.2.1
  have HR := Lib.hid (And.intro (hr.ext x2) (And.intro (hr3.ext x2) x2))
  clear hok h0 xb x1 x2
  go_wp2
  try rw [show (codeL ss ls [] != 0) = false by rw [bne, hc]; rfl]
  go_loopw [7, 8] (fun v i wr => ∃ (k : Nat) (l : List Int) (a4 : Option Addr) (c4 : Nat), k ≤ n ∧ i = .int .i64 k ∧ v = .slice a4 l.length c4 ∧ l = selN k (fun j => hasF ss ls j) ∧ OwnI wr w1.heap.size a4 l.length c4 l ∧ Ext w1 wr) (fun _ i _ => n - (intOf i).toNat)
  case atStart => exact ⟨0, [], _, _, Nat.zero_le _, rfl, rfl, rfl, ⟨OwnI.lit0 w1 (Nat.le_refl _), by decide⟩, (Ext.refl _).alloc _⟩
  case round =>
    obtain ⟨k, l, a4, c4, hk, rfl, rfl, hle, ho, hx⟩ := hrel
    have hlk : l.length ≤ k := by rw [hle]; exact selN_len _ _
    have HL := Lib.hid hle
    clear hle
    by_cases hlt : k < n
    · have hki : (k : Int) < n := by omega
      have HO := Lib.hid (And.intro ho hx)
      clear ho hx
      go_wp2
      go_loopw [9, 10] (fun v i wr2 => ∃ j : Nat, j ≤ q ∧ i = .int .i64 j ∧ v = .bool (hasF ss (ls.take j) k) ∧ Ext wr wr2) (fun _ i _ => q - (intOf i).toNat)
      case atStart => exact ⟨0, Nat.zero_le _, rfl, rfl, Ext.refl _⟩
      case round =>
        obtain ⟨j, hj, rfl, rfl, hx2⟩ := hrel
        by_cases hjl : j < q
        · have hji : (j : Int) < q := by omega
          have HJ := Lib.hid (hasF_snoc (ss := ss) (ls := ls) (k := j) (z := k) (by omega))
          cases hh : hasF ss (ls.take j) k
          · have hkz := HZ.out (nthS ls j) (nthS_mem (by omega))
            obtain ⟨f1, f2, f3, f4⟩ := first_ok hkz.2.1 hkz.2.2
            have hsz := hkz.1
            have HS := Lib.hid (spE_nil (ss := ss) hkz.2.1)
            have HF := Lib.hid (show nth (nthW (spL ss (nthS ls j)) 0) 0 = fst1 ss (nthS ls j) from rfl)
            have HH := Lib.hid hh
            clear hh hkz f3 f4
            obtain ⟨b, o, rfl, hbl, hA⟩ := (HR.out.2.1.ext (HO.out.2.trans hx2)).at (by omega)
            have hck := hA j hjl
            clear hA
            go_wp2_with fail
            refine (l06Spellings_any _ _ _ _ _ _ _ _ [] _ (HR.out.1.ext ((HO.out.2.trans hx2).alloc _)) (RdI.nil _ _) hsz hl).mono ?_
            rw [← HS.out]
            rintro e w3 ⟨a5, c5, rfl, r5, x5⟩
            generalize spL ss (nthS ls j) = zss at r5 HF f1 f2 ⊢
            have hi1 : (0 : Int) < zss.length := by omega
            have hi2 : (0 : Int) < (nthW zss 0).length := by omega
            obtain ⟨b5, o5, rfl, hb5, hA5⟩ := r5.at f1
            obtain ⟨pa, pc, hc5, hp⟩ := rdgr_at hA5 f1
            obtain ⟨b6, o6, rfl, hb6, hA6⟩ := hp.at f2
            have hc6 := hA6 0 f2
            rw [HF.out] at hc6
            simp only [Nat.add_zero] at hc5 hc6
            have HX := Lib.hid ((hx2.alloc _).trans x5)
            clear hA5 hA6 hck r5 hp x5 hx2
            go_wp2
            go_roundw
            case rel => exact ⟨j + 1, by omega, by go_num, by rw [HJ.out, HH.out, Bool.false_or], HX.out⟩
            case measure => simp [intOf]; omega
          · have HH := Lib.hid hh
            clear hh
            go_wp2
            go_roundw
            case rel => exact ⟨j + 1, by omega, by go_num, by rw [HJ.out, HH.out, Bool.true_or], hx2⟩
            case measure => simp [intOf]; omega
        · obtain rfl : j = q := by omega
          have hji : ¬ (j : Int) < j := by omega
          rw [List.take_of_length_le (by omega)]
          cases hh : hasF ss ls k
          · have HH := Lib.hid (selN_no (k := k) (p := fun j => hasF ss ls j) hh)
            clear hh
            go_wp2
            refine ⟨⟨k + 1, l, a4, c4, by omega, by go_num, rfl, by rw [HH.out]; exact HL.out, HO.out.1.ext hx2, HO.out.2.trans hx2⟩, ?_⟩
            simp only [intOf]
            omega
          · have HH := Lib.hid (selN_yes (k := k) (p := fun j => hasF ss ls j) hh)
            have hoE := HO.out.1.ext hx2
            have hxE := HO.out.2.trans hx2
            clear hh
            go_wp2_with (first | (at_builtin; refine wpList_appI rfl _ _ rfl w1.heap.size _ l.length l rfl (hoE.alloc _) _ 1 _ [(k : Int)] rfl (RdI.new1 _ _ _) (by omega) (hxE.le_alloc _) ?_; intro a6 c6 w6 hown hgrow; have hb7 := hxE.app hoE (Nat.le_refl _) hgrow; have HQ := Lib.hid (And.intro hown hb7); clear hown hb7))
            refine ⟨⟨k + 1, l ++ [(k : Int)], a6, c6, by omega, by go_num, by simp, by rw [HH.out, ← HL.out], by simpa using HQ.out.1, HQ.out.2⟩, ?_⟩
            simp only [intOf]
            omega
    · obtain rfl : k = n := by omega
      have HO := Lib.hid (And.intro ho hx)
      clear ho hx
      have hki : ¬ (k : Int) < k := by omega
      go_wp2
      go_ret2
      rw [HC.out.1, HC.out.2, hln1, ← HL.out]
      exact ⟨_, rfl, _, _, _, rfl, HO.out.1.mono HR.out.2.2.size, HR.out.2.2.trans HO.out.2⟩

end Go.Proofs.YtdicjpkcgeofjaaGreatDoor

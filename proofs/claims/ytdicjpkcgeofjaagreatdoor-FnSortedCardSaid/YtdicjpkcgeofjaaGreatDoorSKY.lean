/-
  The key of a phrase: both sides.
-/
import Derived.Test.YtdicjpkcgeofjaaGreatDoorSQ
import Derived.Test.YtdicjpkcgeofjaaGreatDoorDW
namespace Go.Proofs.YtdicjpkcgeofjaaGreatDoor
open Go.RowKit

/-! Spellings are short and name letters. -/
theorem spellF_ok {ss : List ByteArray} : ∀ {f : Nat} {t : ByteArray} {l : List Int}, spellF ss f t = some l → l.length ≤ f ∧ ∀ z ∈ l, 0 ≤ z ∧ z < ss.length
  | 0, t, l, h => by
    rw [spellF] at h
    split at h
    · cases h; simp
    · cases h
  | f + 1, t, l, h => by
    rw [spellF] at h
    split at h
    · cases h; simp
    · split at h
      · cases h
      · rename_i hn
        rw [Option.map_eq_some_iff] at h
        obtain ⟨r, hr, rfl⟩ := h
        obtain ⟨h1, h2⟩ := spellF_ok hr
        refine ⟨by simp; omega, fun z hz => ?_⟩
        rcases List.mem_cons.1 hz with rfl | hz
        · have := nextA_bd ss t ss.length
          have e : nextK ss t = nextA ss t ss.length := rfl
          omega
        · exact h2 z hz
theorem sp1_ok (ss : List ByteArray) (u : ByteArray) : (sp1 ss u).length ≤ u.size ∧ ∀ z ∈ sp1 ss u, 0 ≤ z ∧ z < ss.length := by
  rw [sp1, spellO]
  cases h : spellF ss u.size u with
  | none => simp
  | some l => exact spellF_ok h
theorem alpha_len {ss : List ByteArray} (h : alphaB ss = true) : ss.length ≤ 40 := by
  rw [alphaB, Bool.and_eq_true, inB_iff] at h
  omega
theorem word_len {u : ByteArray} (h : wordB u = true) : 1 ≤ u.size ∧ u.size ≤ 16 := by
  rw [wordB, smallB, Bool.and_eq_true, inB_iff] at h
  omega
theorem phrase_words {s : ByteArray} (h : phraseB s = true) : ∀ u ∈ splitC 32 s, wordB u = true := by
  rw [phraseB, Bool.and_eq_true] at h
  have h2 := h.2
  rw [wordsB, List.all_eq_true] at h2
  exact h2
/-- The words of a phrase that can be written, spelled: at most sixteen letters each. -/
theorem spL_ok {ss : List ByteArray} {s : ByteArray} (ha : alphaB ss = true) (hp : phraseB s = true) : ∀ w ∈ spL ss s, w.length ≤ 16 ∧ ∀ z ∈ w, 0 ≤ z ∧ z < 40 := fun w hw => by
  rw [spL] at hw
  obtain ⟨u, hu, rfl⟩ := List.mem_map.1 hw
  have h1 := sp1_ok ss u
  have h2 := word_len (phrase_words hp u hu)
  have h3 := alpha_len ha
  refine ⟨by omega, fun z hz => ?_⟩
  have := h1.2 z hz
  omega

/-! Bytes. -/
def mkB (l : List UInt8) : ByteArray := ⟨l.toArray⟩
theorem mkB_size (l : List UInt8) : (mkB l).size = l.length := List.size_toArray
theorem mkB_app (l r : List UInt8) : mkB l ++ mkB r = mkB (l ++ r) := by
  apply ByteArray.ext
  simp [mkB, ByteArray.data_append]
theorem dec2_len (z : Int) : (dec2 z).length = 2 := rfl
theorem wordKey_len (l : List Int) : (wordKey l).length = 2 * l.length := by
  induction l with
  | nil => rfl
  | cons x xs ih => rw [wordKey, List.flatMap_cons, List.length_append, dec2_len, ← wordKey, ih, List.length_cons]; omega
theorem wordKey_snoc (l : List Int) (z : Int) : wordKey (l ++ [z]) = wordKey l ++ dec2 z := by simp [wordKey]
theorem decB_two {q : Nat} (h : q < 90) : decB (q + 10) = mkB (dec2 q) := by
  rw [decB, dec_big (by omega), dec_small (by omega)]
  rfl
theorem key_len {zss : List (List Int)} (h : ∀ w ∈ zss, w.length ≤ 16) : (keyL zss).length ≤ 33 * zss.length := by
  induction zss with
  | nil => simp [keyL]
  | cons w r ih =>
    have h1 := h w (List.mem_cons_self ..)
    have h2 := ih fun v hv => h v (List.mem_cons_of_mem _ hv)
    rw [keyL_cons, List.length_append, wordKey_len, List.length_cons]
    cases r with
    | nil => simp [keyR]; omega
    | cons v q => rw [keyR, List.length_cons]; omega
/-- What stands ahead of the k-th word. -/
def preK (zss : List (List Int)) (k : Nat) : List UInt8 := if k = 0 then [] else keyL (zss.take k) ++ [48]
theorem key_step {zss : List (List Int)} {k : Nat} (hk : k < zss.length) : keyL (zss.take (k + 1)) = preK zss k ++ wordKey (nthW zss k) := by
  rw [List.take_succ_eq_append_getElem hk, nthW_eq hk, preK]
  by_cases h : k = 0
  · subst h; simp [keyL]
  · rw [if_neg h, keyL_snoc _ _ (by simp; exact ⟨h, by rintro rfl; simp at hk⟩), List.append_assoc]
    rfl

theorem decimalS_any (q : Nat) (w : World) (hq : q < 90) :
    Calls Tryz.prog 35 #[.int .i64 ((q : Int) + 10)] w fun e w' => e = .returned (.string (mkB (dec2 q))) ∧ Ext w w' := by
  have hd := Tryz.strconv_FormatInt_10_small (q + 10) (by omega)
  rw [show ((q + 10 : Nat) : Int) = (q : Int) + 10 from by omega] at hd
  have HE := Lib.hid (decB_two hq)
  go_enter Tryz.func35, Tryz.ntmps35
  go_wp2_with fail
  refine (hd _).mono ?_
  rintro e w1 ⟨rfl, rfl⟩
  go_wp2
  go_ret
  exact ⟨by rw [← HE.out]; rfl, Ext.refl _⟩
theorem l01Dec2_any (q : Nat) (w : World) (hq : q < 90) :
    Calls Tryz.prog 37 #[.int .i64 ((q : Int) + 10)] w fun e w' => e = .returned (.string (mkB (dec2 q))) ∧ Ext w w' := by
  have hd := l01DecN_any (q + 10) w (by omega)
  rw [show ((q + 10 : Nat) : Int) = (q : Int) + 10 from by omega, decB_two hq] at hd
  exact hd

/-- The key, where the code is 0. -/
def skT (ss : List ByteArray) (s : ByteArray) : ByteArray := if codeN ss [s] [] = 0 then mkB (keyL (spL ss s)) else ⟨#[]⟩
theorem codeL_one (ss : List ByteArray) (s : ByteArray) (ig : List Int) : codeL ss [s] ig = codeN ss [s] ig := by rw [codeL, if_neg]; simp
theorem code_one {ss : List ByteArray} {s : ByteArray} {ig : List Int} (h : codeN ss [s] ig = 0) : alphaB ss = true ∧ phraseB s = true ∧ canB ss s = true := by
  obtain ⟨h1, h2, _, h4⟩ := codeN_zero h
  rw [phrasesB, List.all_eq_true] at h2
  rw [canAll, List.all_eq_true] at h4
  exact ⟨h1, h2 s (by simp), h4 s (by simp)⟩

set_option maxRecDepth 100000 in
set_option maxHeartbeats 2000000 in
theorem implSortKey_any (a : Option Addr) (n c : Nat) (s : ByteArray) (ss : List ByteArray) (w : World) (hr : RdS w a n ss) (hcap : n ≤ c) (hs : s.size ≤ 1073741824) (hmax : MaxW w) :
    Calls Tryz.prog 12 #[.slice a n c, .string s] w fun e w' => e = .returned (.tuple #[.string (skT ss s), .int .i64 (codeN ss [s] [])]) ∧ Ext w w' := by
  have xb := (Ext.refl w).alloc (.cells #[.string s] 9)
  have hlit : RdS (w.alloc (.cells #[.string s] 9)) (some ⟨w.heap.size, 0, none⟩) 1 [s] := ⟨RdG.new1 layS w s #[.string s] rfl 9, by simpa using hs⟩
  go_enter Tryz.func12, Tryz.ntmps12
  go_wp2_with fail
  refine (newSorter_any _ _ _ _ _ _ _ _ _ _ _ [] _ (hr.ext xb) hcap (RdI.nil _ _) hlit (hmax.ext xb)).mono ?_
  rintro e w1 ⟨ua, un, uc, va, vn, vc, rfl, _, x1⟩
  have x2 := (xb.trans x1).alloc (.cells #[.slice ua un uc, .slice va vn vc] 46)
  cases hc : (codeN ss [s] [] == 0)
  · have HC := Lib.hid (show skT ss s = ⟨#[]⟩ from if_neg (by simpa using hc))
    go_wp2
    go_ret2
    rw [HC.out]
    exact ⟨rfl, x2⟩
  have h0 : codeN ss [s] [] = 0 := by simpa using hc
  have HC := Lib.hid (And.intro (show skT ss s = mkB (keyL (spL ss s)) from if_pos h0) h0)
  obtain ⟨ha, hp, hcan⟩ := code_one h0
  have hl := alpha_letters ha
  have HOK := Lib.hid (spL_ok ha hp)
  have HS := Lib.hid (can_spells hcan)
  clear h0 hp hcan ha xb x1 hlit
  go_wp2_with fail
  refine (spelled_any _ _ _ _ _ _ (hr.ext x2) hs hl (hmax.ext x2)).mono ?_
  rw [HS.out]
  rintro e w3 ⟨a3, c3, rfl, r3, x3⟩
  simp only [Option.getD_some, Option.isSome_some] at r3 ⊢
  have HX := Lib.hid (x2.trans x3)
  clear x2 x3 HS
  generalize spL ss s = zss at r3 HC HOK ⊢
  have hm := r3.le
  go_wp2
  rw [show (codeN ss [s] [] != 0) = false by rw [bne, hc]; rfl]
  go_loopw [10, 33] (fun v i wr => ∃ k : Nat, k ≤ zss.length ∧ i = .int .i64 k ∧ v = .string (mkB (keyL (zss.take k))) ∧ Ext w3 wr) (fun _ i _ => zss.length - (intOf i).toNat)
  case atStart => exact ⟨0, Nat.zero_le _, rfl, rfl, Ext.refl _⟩
  case round =>
    obtain ⟨k, hk, rfl, rfl, hx⟩ := hrel
    by_cases hlt : k < zss.length
    · have hki : (k : Int) < zss.length := by omega
      obtain ⟨b, o, rfl, hbl, hc3⟩ := (r3.ext hx).at (by omega)
      obtain ⟨pa, pc, hck, hp⟩ := rdgr_at hc3 hlt
      have HW := Lib.hid (HOK.out (nthW zss k) (by rw [nthW_eq hlt]; exact List.getElem_mem hlt))
      have hlw := HW.out.1
      have hkl : (keyL (zss.take k)).length ≤ 33 * k := by
        have := key_len (zss := zss.take k) fun w hw => (HOK.out w (List.mem_of_mem_take hw)).1
        rw [List.length_take, Nat.min_eq_left hk] at this
        exact this
      have HK := Lib.hid (key_step hlt)
      have hprl : (preK zss k).length ≤ 33 * k + 1 := by
        rw [preK]
        split
        · simp
        · simp; omega
      clear hc3
      by_cases hk00 : 0 < k
      · have hk0 : (0 : Int) < k := by omega
        have HP := Lib.hid (show mkB (keyL (zss.take k)) ++ mkB [48] = mkB (preK zss k) by rw [mkB_app, preK, if_neg (by omega)])
        have p1 : ¬ 9223372036854775807 < (mkB (keyL (zss.take k))).size + (mkB [48]).size := by rw [mkB_size, mkB_size]; simp; omega
        skip
        go_wp2
        rw [show mkB (keyL (zss.take k)) ++ (⟨#[48]⟩ : ByteArray) = mkB (preK zss k) from HP.out]
        go_loopw [10, 44] (fun v i wr2 => ∃ j : Nat, j ≤ (nthW zss k).length ∧ i = .int .i64 j ∧ v = .string (mkB (preK zss k ++ wordKey ((nthW zss k).take j))) ∧ Ext wr wr2) (fun _ i _ => (nthW zss k).length - (intOf i).toNat)
        case atStart => exact ⟨0, Nat.zero_le _, rfl, by simp [wordKey], Ext.refl _⟩
        case round =>
          obtain ⟨j, hj, rfl, rfl, hx2⟩ := hrel
          by_cases hjl : j < (nthW zss k).length
          · have hji : (j : Int) < (nthW zss k).length := by omega
            obtain ⟨b4, o4, rfl, hb4, hc4⟩ := (hp.ext hx2).at (by omega)
            have hcj := hc4 j hjl
            clear hc4
            have hz := HW.out.2 (nth (nthW zss k) j) (by rw [nth_eq hjl]; exact List.getElem_mem hjl)
            obtain ⟨q, hq⟩ := Int.eq_ofNat_of_zero_le hz.1
            have HT := Lib.hid (show (nthW zss k).take (j + 1) = (nthW zss k).take j ++ [(q : Int)] by rw [List.take_succ_eq_append_getElem hjl, ← nth_eq hjl, hq])
            rw [hq] at hcj
            have hq90 : q < 90 := by omega
            clear hq hz
            have hqw : IntKind.i64.wrap ((q : Int) + 10) = (q : Int) + 10 := IntWalk.i64_in _ (by omega)
            have p2 : ¬ 9223372036854775807 < (mkB (preK zss k ++ wordKey ((nthW zss k).take j))).size + (mkB (dec2 q)).size := by
              rw [mkB_size, mkB_size, List.length_append, wordKey_len, List.length_take, dec2_len]; omega
            go_wp2_with fail
            refine (decimalS_any q _ hq90).mono ?_
            rintro e w5 ⟨rfl, x5⟩
            go_wp2
            go_roundw
            case rel => exact ⟨j + 1, by omega, by go_num, by rw [mkB_app, HT.out, wordKey_snoc, List.append_assoc], hx2.trans x5⟩
            case measure => simp only [intOf]; omega
          · have hji : ¬ (j : Int) < (nthW zss k).length := by omega
            obtain rfl : j = (nthW zss k).length := by omega
            rw [List.take_length, ← HK.out]
            go_wp2
            refine ⟨⟨k + 1, by omega, by go_num, rfl, hx.trans hx2⟩, ?_⟩
            simp only [intOf]
            omega
      · have hk0 : ¬ (0 : Int) < k := by omega
        have HP := Lib.hid (show mkB (keyL (zss.take k)) = mkB (preK zss k) by rw [preK, if_pos (by omega), show k = 0 from by omega]; rfl)
        go_wp2
        rw [HP.out]
        go_loopw [10, 44] (fun v i wr2 => ∃ j : Nat, j ≤ (nthW zss k).length ∧ i = .int .i64 j ∧ v = .string (mkB (preK zss k ++ wordKey ((nthW zss k).take j))) ∧ Ext wr wr2) (fun _ i _ => (nthW zss k).length - (intOf i).toNat)
        case atStart => exact ⟨0, Nat.zero_le _, rfl, by simp [wordKey], Ext.refl _⟩
        case round =>
          obtain ⟨j, hj, rfl, rfl, hx2⟩ := hrel
          by_cases hjl : j < (nthW zss k).length
          · have hji : (j : Int) < (nthW zss k).length := by omega
            obtain ⟨b4, o4, rfl, hb4, hc4⟩ := (hp.ext hx2).at (by omega)
            have hcj := hc4 j hjl
            clear hc4
            have hz := HW.out.2 (nth (nthW zss k) j) (by rw [nth_eq hjl]; exact List.getElem_mem hjl)
            obtain ⟨q, hq⟩ := Int.eq_ofNat_of_zero_le hz.1
            have HT := Lib.hid (show (nthW zss k).take (j + 1) = (nthW zss k).take j ++ [(q : Int)] by rw [List.take_succ_eq_append_getElem hjl, ← nth_eq hjl, hq])
            rw [hq] at hcj
            have hq90 : q < 90 := by omega
            clear hq hz
            have hqw : IntKind.i64.wrap ((q : Int) + 10) = (q : Int) + 10 := IntWalk.i64_in _ (by omega)
            have p2 : ¬ 9223372036854775807 < (mkB (preK zss k ++ wordKey ((nthW zss k).take j))).size + (mkB (dec2 q)).size := by
              rw [mkB_size, mkB_size, List.length_append, wordKey_len, List.length_take, dec2_len]; omega
            go_wp2_with fail
            refine (decimalS_any q _ hq90).mono ?_
            rintro e w5 ⟨rfl, x5⟩
            go_wp2
            go_roundw
            case rel => exact ⟨j + 1, by omega, by go_num, by rw [mkB_app, HT.out, wordKey_snoc, List.append_assoc], hx2.trans x5⟩
            case measure => simp only [intOf]; omega
          · have hji : ¬ (j : Int) < (nthW zss k).length := by omega
            obtain rfl : j = (nthW zss k).length := by omega
            rw [List.take_length, ← HK.out]
            go_wp2
            refine ⟨⟨k + 1, by omega, by go_num, rfl, hx.trans hx2⟩, ?_⟩
            simp only [intOf]
            omega
    · obtain rfl : k = zss.length := by omega
      rw [List.take_length]
      go_wp2
      go_ret2
      rw [HC.out.1, HC.out.2]
      exact ⟨rfl, HX.out.trans hx⟩

set_option maxRecDepth 100000 in
set_option maxHeartbeats 2000000 in
theorem specSortKey_any (a : Option Addr) (n c : Nat) (s : ByteArray) (ss : List ByteArray) (w : World) (hr : RdS w a n ss) (hs : s.size ≤ 1073741824) :
    Calls Tryz.prog 13 #[.slice a n c, .string s] w fun e w' => e = .returned (.tuple #[.string (skT ss s), .int .i64 (codeN ss [s] [])]) ∧ Ext w w' := by
  have xb := (Ext.refl w).alloc (.cells #[.string s] 9)
  have xb2 := xb.alloc (.cells #[] 2)
  have hlit : RdS ((w.alloc (.cells #[.string s] 9)).alloc (.cells #[] 2)) (some ⟨w.heap.size, 0, none⟩) 1 [s] := ⟨(RdG.new1 layS w s #[.string s] rfl 9).ext ((Ext.refl _).alloc _), by simpa using hs⟩
  go_enter Tryz.func13, Tryz.ntmps13
  go_wp2_with fail
  refine (l06Code_any _ _ _ _ _ _ _ _ _ _ _ [] _ (hr.ext xb2) hlit (RdI.nil _ _)).mono ?_
  rw [codeL_one]
  rintro e w1 ⟨rfl, x1⟩
  have x2 := xb2.trans x1
  cases hc : (codeN ss [s] [] == 0)
  · have HC := Lib.hid (show skT ss s = ⟨#[]⟩ from if_neg (by simpa using hc))
    go_wp2
    go_ret2
    rw [HC.out]
    exact ⟨rfl, x2⟩
  have h0 : codeN ss [s] [] = 0 := by simpa using hc
  have HC := Lib.hid (And.intro (show skT ss s = mkB (keyL (spL ss s)) from if_pos h0) h0)
  obtain ⟨ha, hp, hcan⟩ := code_one h0
  have hl := alpha_letters ha
  have HOK := Lib.hid (spL_ok ha hp)
  have HS := Lib.hid (spE_nil (ss := ss) hp)
  clear h0 hp hcan ha xb xb2 x1 hlit
  go_wp2_with fail
  refine (l06Spellings_any _ _ _ _ _ _ _ _ [] _ (hr.ext (x2.alloc _)) (RdI.nil _ _) hs hl).mono ?_
  rw [← HS.out]
  rintro e w3 ⟨a3, c3, rfl, r3, x3⟩
  have HX := Lib.hid ((x2.alloc _).trans x3)
  clear x2 x3 HS
  generalize spL ss s = zss at r3 HC HOK ⊢
  have hm := r3.le
  go_wp2
  try rw [show (codeN ss [s] [] != 0) = false by rw [bne, hc]; rfl]
  go_loopw [7, 9] (fun v i wr => ∃ k : Nat, k ≤ zss.length ∧ i = .int .i64 k ∧ v = .string (mkB (keyL (zss.take k))) ∧ Ext w3 wr) (fun _ i _ => zss.length - (intOf i).toNat)
  case atStart => exact ⟨0, Nat.zero_le _, rfl, rfl, Ext.refl _⟩
  case round =>
    obtain ⟨k, hk, rfl, rfl, hx⟩ := hrel
    by_cases hlt : k < zss.length
    · have hki : (k : Int) < zss.length := by omega
      obtain ⟨b, o, rfl, hbl, hc3⟩ := (r3.ext hx).at (by omega)
      obtain ⟨pa, pc, hck, hp⟩ := rdgr_at hc3 hlt
      have HW := Lib.hid (HOK.out (nthW zss k) (by rw [nthW_eq hlt]; exact List.getElem_mem hlt))
      have hlw := HW.out.1
      have hkl : (keyL (zss.take k)).length ≤ 33 * k := by
        have := key_len (zss := zss.take k) fun w hw => (HOK.out w (List.mem_of_mem_take hw)).1
        rw [List.length_take, Nat.min_eq_left hk] at this
        exact this
      have HK := Lib.hid (key_step hlt)
      have hprl : (preK zss k).length ≤ 33 * k + 1 := by
        rw [preK]
        split
        · simp
        · simp; omega
      clear hc3
      by_cases hk00 : 0 < k
      · have hk0 : (0 : Int) < k := by omega
        have HP := Lib.hid (show mkB (keyL (zss.take k)) ++ mkB [48] = mkB (preK zss k) by rw [mkB_app, preK, if_neg (by omega)])
        have p1 : ¬ 9223372036854775807 < (mkB (keyL (zss.take k))).size + (mkB [48]).size := by rw [mkB_size, mkB_size]; simp; omega
        skip
        go_wp2
        rw [show mkB (keyL (zss.take k)) ++ (⟨#[48]⟩ : ByteArray) = mkB (preK zss k) from HP.out]
        go_loopw [7, 10] (fun v i wr2 => ∃ j : Nat, j ≤ (nthW zss k).length ∧ i = .int .i64 j ∧ v = .string (mkB (preK zss k ++ wordKey ((nthW zss k).take j))) ∧ Ext wr wr2) (fun _ i _ => (nthW zss k).length - (intOf i).toNat)
        case atStart => exact ⟨0, Nat.zero_le _, rfl, by simp [wordKey], Ext.refl _⟩
        case round =>
          obtain ⟨j, hj, rfl, rfl, hx2⟩ := hrel
          by_cases hjl : j < (nthW zss k).length
          · have hji : (j : Int) < (nthW zss k).length := by omega
            obtain ⟨b4, o4, rfl, hb4, hc4⟩ := (hp.ext hx2).at (by omega)
            have hcj := hc4 j hjl
            clear hc4
            have hz := HW.out.2 (nth (nthW zss k) j) (by rw [nth_eq hjl]; exact List.getElem_mem hjl)
            obtain ⟨q, hq⟩ := Int.eq_ofNat_of_zero_le hz.1
            have HT := Lib.hid (show (nthW zss k).take (j + 1) = (nthW zss k).take j ++ [(q : Int)] by rw [List.take_succ_eq_append_getElem hjl, ← nth_eq hjl, hq])
            rw [hq] at hcj
            have hq90 : q < 90 := by omega
            clear hq hz
            have hqw : IntKind.i64.wrap ((q : Int) + 10) = (q : Int) + 10 := IntWalk.i64_in _ (by omega)
            have p2 : ¬ 9223372036854775807 < (mkB (preK zss k ++ wordKey ((nthW zss k).take j))).size + (mkB (dec2 q)).size := by
              rw [mkB_size, mkB_size, List.length_append, wordKey_len, List.length_take, dec2_len]; omega
            have hck2 := (Below.cell hx2 (p := ⟨b, o + k, none⟩) hbl).trans hck
            go_wp2_with fail
            refine (l01Dec2_any q _ hq90).mono ?_
            rintro e w5 ⟨rfl, x5⟩
            go_wp2
            go_roundw
            case rel => exact ⟨j + 1, by omega, by go_num, by rw [mkB_app, HT.out, wordKey_snoc, List.append_assoc], hx2.trans x5⟩
            case measure => simp only [intOf]; omega
          · have hji : ¬ (j : Int) < (nthW zss k).length := by omega
            obtain rfl : j = (nthW zss k).length := by omega
            have hck2 := (Below.cell hx2 (p := ⟨b, o + k, none⟩) hbl).trans hck
            rw [List.take_length, ← HK.out]
            go_wp2
            refine ⟨⟨k + 1, by omega, by go_num, rfl, hx.trans hx2⟩, ?_⟩
            simp only [intOf]
            omega
      · have hk0 : ¬ (0 : Int) < k := by omega
        have HP := Lib.hid (show mkB (keyL (zss.take k)) = mkB (preK zss k) by rw [preK, if_pos (by omega), show k = 0 from by omega]; rfl)
        go_wp2
        rw [HP.out]
        go_loopw [7, 10] (fun v i wr2 => ∃ j : Nat, j ≤ (nthW zss k).length ∧ i = .int .i64 j ∧ v = .string (mkB (preK zss k ++ wordKey ((nthW zss k).take j))) ∧ Ext wr wr2) (fun _ i _ => (nthW zss k).length - (intOf i).toNat)
        case atStart => exact ⟨0, Nat.zero_le _, rfl, by simp [wordKey], Ext.refl _⟩
        case round =>
          obtain ⟨j, hj, rfl, rfl, hx2⟩ := hrel
          by_cases hjl : j < (nthW zss k).length
          · have hji : (j : Int) < (nthW zss k).length := by omega
            obtain ⟨b4, o4, rfl, hb4, hc4⟩ := (hp.ext hx2).at (by omega)
            have hcj := hc4 j hjl
            clear hc4
            have hz := HW.out.2 (nth (nthW zss k) j) (by rw [nth_eq hjl]; exact List.getElem_mem hjl)
            obtain ⟨q, hq⟩ := Int.eq_ofNat_of_zero_le hz.1
            have HT := Lib.hid (show (nthW zss k).take (j + 1) = (nthW zss k).take j ++ [(q : Int)] by rw [List.take_succ_eq_append_getElem hjl, ← nth_eq hjl, hq])
            rw [hq] at hcj
            have hq90 : q < 90 := by omega
            clear hq hz
            have hqw : IntKind.i64.wrap ((q : Int) + 10) = (q : Int) + 10 := IntWalk.i64_in _ (by omega)
            have p2 : ¬ 9223372036854775807 < (mkB (preK zss k ++ wordKey ((nthW zss k).take j))).size + (mkB (dec2 q)).size := by
              rw [mkB_size, mkB_size, List.length_append, wordKey_len, List.length_take, dec2_len]; omega
            have hck2 := (Below.cell hx2 (p := ⟨b, o + k, none⟩) hbl).trans hck
            go_wp2_with fail
            refine (l01Dec2_any q _ hq90).mono ?_
            rintro e w5 ⟨rfl, x5⟩
            go_wp2
            go_roundw
            case rel => exact ⟨j + 1, by omega, by go_num, by rw [mkB_app, HT.out, wordKey_snoc, List.append_assoc], hx2.trans x5⟩
            case measure => simp only [intOf]; omega
          · have hji : ¬ (j : Int) < (nthW zss k).length := by omega
            obtain rfl : j = (nthW zss k).length := by omega
            have hck2 := (Below.cell hx2 (p := ⟨b, o + k, none⟩) hbl).trans hck
            rw [List.take_length, ← HK.out]
            go_wp2
            refine ⟨⟨k + 1, by omega, by go_num, rfl, hx.trans hx2⟩, ?_⟩
            simp only [intOf]
            omega
    · obtain rfl : k = zss.length := by omega
      have hki : ¬ (zss.length : Int) < zss.length := by omega
      rw [List.take_length]
      go_wp2
      go_ret2
      rw [HC.out.1, HC.out.2]
      exact ⟨rfl, HX.out.trans hx⟩

end Go.Proofs.YtdicjpkcgeofjaaGreatDoor

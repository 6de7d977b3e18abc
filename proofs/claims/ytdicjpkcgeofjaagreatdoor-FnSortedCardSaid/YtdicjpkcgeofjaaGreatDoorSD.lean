/-
  A sorter for some phrases; the codes of an alphabet, phrases and ignored letters: both sides.
-/
import Derived.Test.YtdicjpkcgeofjaaGreatDoorSC
import Derived.Test.YtdicjpkcgeofjaaGreatDoorNSpan
namespace Go.Proofs.YtdicjpkcgeofjaaGreatDoor
open Go.RowKit

/-! The plain law. -/
def phrasesB (ls : List ByteArray) : Bool := ls.all phraseB
def canAll (ss ls : List ByteArray) : Bool := ls.all (canB ss)
def codeN (ss ls : List ByteArray) (ig : List Int) : Int := if (alphaB ss && phrasesB ls) = true then (if allIn ig 0 ((ss.length : Int) - 1) = true then (if canAll ss ls = true then 0 else 4) else 2) else 1
/-- With the limit on the number of phrases. -/
def codeL (ss ls : List ByteArray) (ig : List Int) : Int := if codeN ss ls ig = 0 ∧ 20 < ls.length then 3 else codeN ss ls ig
theorem codeN_inv {ss ls : List ByteArray} {ig : List Int} (h : (alphaB ss && phrasesB ls) = false) : codeN ss ls ig = 1 := by rw [codeN, h]; rfl
theorem codeN_rng {ss ls : List ByteArray} {ig : List Int} (h1 : alphaB ss = true) (h2 : phrasesB ls = true) (h : allIn ig 0 ((ss.length : Int) - 1) = false) : codeN ss ls ig = 2 := by rw [codeN, h1, h2, h]; rfl
theorem codeN_nf {ss ls : List ByteArray} {ig : List Int} (h1 : alphaB ss = true) (h2 : phrasesB ls = true) (h3 : allIn ig 0 ((ss.length : Int) - 1) = true) (h : canAll ss ls = false) : codeN ss ls ig = 4 := by rw [codeN, h1, h2, h3, h]; rfl
theorem codeN_ok {ss ls : List ByteArray} {ig : List Int} (h1 : alphaB ss = true) (h2 : phrasesB ls = true) (h3 : allIn ig 0 ((ss.length : Int) - 1) = true) (h : canAll ss ls = true) : codeN ss ls ig = 0 := by rw [codeN, h1, h2, h3, h]; rfl
theorem codeN_zero {ss ls : List ByteArray} {ig : List Int} (h : codeN ss ls ig = 0) : alphaB ss = true ∧ phrasesB ls = true ∧ allIn ig 0 ((ss.length : Int) - 1) = true ∧ canAll ss ls = true := by
  rw [codeN] at h
  by_cases h1 : (alphaB ss && phrasesB ls) = true
  · rw [if_pos h1] at h
    rw [Bool.and_eq_true] at h1
    by_cases h2 : allIn ig 0 ((ss.length : Int) - 1) = true
    · rw [if_pos h2] at h
      by_cases h3 : canAll ss ls = true
      · exact ⟨h1.1, h1.2, h2, h3⟩
      · rw [if_neg h3] at h; exact absurd h (by decide)
    · rw [if_neg h2] at h; exact absurd h (by decide)
  · rw [if_neg h1] at h; exact absurd h (by decide)
theorem codeL_ne {ss ls : List ByteArray} {ig : List Int} {k : Int} (h : codeN ss ls ig = k) (hk : k ≠ 0) : codeL ss ls ig = k := by rw [codeL, if_neg (fun x => hk (h.symm.trans x.1)), h]
theorem codeL_lim {ss ls : List ByteArray} {ig : List Int} (h : codeN ss ls ig = 0) (hl : 20 < ls.length) : codeL ss ls ig = 3 := if_pos ⟨h, hl⟩
theorem codeL_ok {ss ls : List ByteArray} {ig : List Int} (h : codeN ss ls ig = 0) (hl : ¬ 20 < ls.length) : codeL ss ls ig = 0 := by rw [codeL, if_neg (fun x => hl x.2), h]
theorem codeL_zero {ss ls : List ByteArray} {ig : List Int} (h : codeL ss ls ig = 0) : codeN ss ls ig = 0 ∧ ¬ 20 < ls.length := by
  rw [codeL] at h
  by_cases hc : codeN ss ls ig = 0 ∧ 20 < ls.length
  · rw [if_pos hc] at h; exact absurd h (by decide)
  · rw [if_neg hc] at h
    exact ⟨h, fun x => hc ⟨h, x⟩⟩
theorem all_bad {p : ByteArray → Bool} {ls : List ByteArray} {k : Nat} (hk : k < ls.length) (h : p (nthS ls k) = false) : ls.all p = false := by
  rw [List.all_eq_false]
  exact ⟨nthS ls k, nthS_mem hk, by simp [h]⟩
theorem all_good {p : ByteArray → Bool} {ls : List ByteArray} (h : ∀ k, k < ls.length → p (nthS ls k) = true) : ls.all p = true := by
  rw [List.all_eq_true]
  intro x hx
  obtain ⟨k, hk, rfl⟩ := List.getElem_of_mem hx
  rw [← nthS_eq hk]
  exact h k hk
theorem all_at {p : ByteArray → Bool} {ls : List ByteArray} (h : ls.all p = true) {k : Nat} (hk : k < ls.length) : p (nthS ls k) = true := by
  rw [List.all_eq_true] at h
  exact h _ (nthS_mem hk)

set_option maxRecDepth 100000 in
set_option maxHeartbeats 1000000 in
theorem arePhrases_any (a : Option Addr) (n c : Nat) (ls : List ByteArray) (w : World) (hr : RdS w a n ls) (hmax : MaxW w) :
    Calls Tryz.prog 57 #[.slice a n c] w fun e w' => e = .returned (.bool (phrasesB ls)) ∧ Ext w w' := by
  have hm := hr.le
  have hln := hr.len
  go_enter Tryz.func57, Tryz.ntmps57
  go_wp2
  go_loopw [7] (fun i wr => ∃ k : Nat, k ≤ n ∧ i = .int .i64 k ∧ (∀ j, j < k → phraseB (nthS ls j) = true) ∧ Ext w wr) (fun i _ => n - (intOf i).toNat)
  case atStart => exact ⟨0, Nat.zero_le _, rfl, by simp, Ext.refl _⟩
  case round =>
    obtain ⟨k, hk, rfl, hall, hx⟩ := hrel
    have HA := Lib.hid hall
    clear hall
    by_cases hlt : k < n
    · obtain ⟨b, o, rfl, hbl, hc⟩ := (hr.ext hx).at (by omega)
      have hck := hc k hlt
      have hsz := hr.size hlt
      have hki : (k : Int) < n := by omega
      clear hc
      go_wp2_with fail
      refine (implIsPhrase_any _ _ hsz (hmax.ext hx)).mono ?_
      rintro e w1 ⟨rfl, x1⟩
      cases h : phraseB (nthS ls k)
      · have HH := Lib.hid (all_bad (by omega) h)
        clear h
        go_wp2
        go_ret
        exact ⟨ret_bool (by rw [phrasesB, HH.out]), hx.trans x1⟩
      · have HH := Lib.hid h
        clear h
        go_wp2
        go_roundw
        case rel =>
          refine ⟨k + 1, by omega, by go_num, fun j hj => ?_, hx.trans x1⟩
          by_cases e : j = k
          · rw [e]; exact HH.out
          · exact HA.out j (by omega)
        case measure => simp [intOf]; omega
    · obtain rfl : k = n := by omega
      have HH := Lib.hid (all_good (p := phraseB) (ls := ls) fun j hj => HA.out j (by omega))
      go_wp2
      go_ret
      exact ⟨ret_bool (by rw [phrasesB, HH.out]), hx⟩

/-- What making a sorter returns: its two slices where the code is 0. -/
def RetX (w : World) (k : Int) (x y : Value) (e : Ending) (w' : World) : Prop := ∃ (ua : Option Addr) (un uc : Nat) (va : Option Addr) (vn vc : Nat), e = .returned (.tuple #[.agg #[.slice ua un uc, .slice va vn vc], .int .i64 k]) ∧ (k = 0 → .slice ua un uc = x ∧ .slice va vn vc = y) ∧ Ext w w'
theorem wrote2 {w wr : World} (x : Ext w wr) (u v : Value) : Ext w ((wr.setCell ⟨w.heap.size, 0, none⟩ u).setCell ⟨w.heap.size, 1, none⟩ v) :=
  (x.setCell (p := ⟨w.heap.size, 0, none⟩) (Nat.le_refl _) u).setCell (p := ⟨w.heap.size, 1, none⟩) (Nat.le_refl _) v

set_option maxRecDepth 100000 in
set_option maxHeartbeats 2000000 in
theorem newSorter_any (a a2 a3 : Option Addr) (n c m c2 q c3 : Nat) (ss ls : List ByteArray) (ig : List Int) (w : World) (hr : RdS w a n ss) (hcap : n ≤ c) (hr2 : RdI w a2 m ig) (hr3 : RdS w a3 q ls) (hmax : MaxW w) :
    Calls Tryz.prog 33 #[.slice a n c, .slice a2 m c2, .slice a3 q c3] w (RetX w (codeN ss ls ig) (.slice a n c) (.slice a2 m c2)) := by
  have hm := hr.le
  have hln := hr.len
  have hm3 := hr3.le
  have hln3 := hr3.len
  have xb := (Ext.refl w).alloc (.cells #[.slice none 0 0, .slice none 0 0] 46)
  go_enter Tryz.func33, Tryz.ntmps33
  go_wp2_with fail
  refine (implIsAlphabet_any _ _ _ _ _ (hr.ext xb) hcap).mono ?_
  rintro e w1 ⟨rfl, x1⟩
  cases hA : alphaB ss
  · have HZ := Lib.hid (codeN_inv (ls := ls) (ig := ig) (by rw [hA]; rfl))
    have b0 : w1.cell? ⟨w.heap.size, 0, none⟩ = some (.slice none 0 0) := box_keptG x1 0
    have b1 : w1.cell? ⟨w.heap.size, 1, none⟩ = some (.slice none 0 0) := box_keptG x1 1
    have f0 := box_frozen x1 0
    have f1 := box_frozen x1 1
    clear hA
    go_wp2
    exact bodyPost_ret (v := .tuple #[.agg #[.slice none 0 0, .slice none 0 0], .int .i64 1]) (by simp [results, Tryz.results33, go_sem, b0, b1]) rfl ⟨_, _, _, _, _, _, by rw [HZ.out], by rw [HZ.out]; intro h; exact absurd h (by decide), wrote2 (xb.trans x1) _ _⟩
  have hx1 := xb.trans x1
  have XH := Lib.hid (And.intro hx1 x1)
  have HA := Lib.hid hA
  clear hA hx1 x1
  go_wp2_with fail
  refine (arePhrases_any _ _ _ _ _ (hr3.ext XH.out.1) (hmax.ext XH.out.1)).mono ?_
  rintro e w2 ⟨rfl, x2⟩
  cases hP : phrasesB ls
  · have HZ := Lib.hid (codeN_inv (ss := ss) (ls := ls) (ig := ig) (by rw [hP, Bool.and_false]))
    have x12 := XH.out.2.trans x2
    have b0 : w2.cell? ⟨w.heap.size, 0, none⟩ = some (.slice none 0 0) := box_keptG x12 0
    have b1 : w2.cell? ⟨w.heap.size, 1, none⟩ = some (.slice none 0 0) := box_keptG x12 1
    have f0 := box_frozen x12 0
    have f1 := box_frozen x12 1
    clear hP
    go_wp2
    exact bodyPost_ret (v := .tuple #[.agg #[.slice none 0 0, .slice none 0 0], .int .i64 1]) (by simp [results, Tryz.results33, go_sem, b0, b1]) rfl ⟨_, _, _, _, _, _, by rw [HZ.out], by rw [HZ.out]; intro h; exact absurd h (by decide), wrote2 (xb.trans x12) _ _⟩
  have XP := Lib.hid (And.intro (XH.out.1.trans x2) (XH.out.2.trans x2))
  have HP := Lib.hid hP
  clear hP x2 XH
  have hw1 : IntKind.i64.wrap ((n : Int) - 1) = (n : Int) - 1 := IntWalk.i64_in _ (by omega)
  cases hW : allIn ig 0 ((n : Int) - 1)
  · have HZ := Lib.hid (codeN_rng HA.out HP.out (by rw [hln, hW]))
    have HW := Lib.hid hW
    have b0 : w2.cell? ⟨w.heap.size, 0, none⟩ = some (.slice none 0 0) := box_keptG XP.out.2 0
    have b1 : w2.cell? ⟨w.heap.size, 1, none⟩ = some (.slice none 0 0) := box_keptG XP.out.2 1
    have f0 := box_frozen XP.out.2 0
    have f1 := box_frozen XP.out.2 1
    clear hW
    go_wp2_with (first | (go_at_call 59; refine (lengthS_any _ _ _ _).mono ?_; rintro e w' ⟨rfl, rfl⟩) | (go_at_call 58; refine (areWithin_any _ _ _ _ _ _ _ (hr2.ext XP.out.1)).mono ?_; rintro e w' ⟨rfl, rfl⟩; rw [HW.out]))
    exact bodyPost_ret (v := .tuple #[.agg #[.slice none 0 0, .slice none 0 0], .int .i64 2]) (by simp [results, Tryz.results33, go_sem, b0, b1]) rfl ⟨_, _, _, _, _, _, by rw [HZ.out], by rw [HZ.out]; intro h; exact absurd h (by decide), wrote2 (XP.out.1) _ _⟩
  have HW := Lib.hid hW
  clear hW
  have hl := alpha_letters HA.out
  go_wp2_with (first | (go_at_call 59; refine (lengthS_any _ _ _ _).mono ?_; rintro e w' ⟨rfl, rfl⟩) | (go_at_call 58; refine (areWithin_any _ _ _ _ _ _ _ (hr2.ext XP.out.1)).mono ?_; rintro e w' ⟨rfl, rfl⟩; rw [HW.out]))
  go_loopw [32] (fun i wr => ∃ k : Nat, k ≤ q ∧ i = .int .i64 k ∧ (∀ j, j < k → canB ss (nthS ls j) = true) ∧ Ext w2 wr) (fun i _ => q - (intOf i).toNat)
  case atStart => exact ⟨0, Nat.zero_le _, rfl, by simp, Ext.refl _⟩
  case round =>
    obtain ⟨k, hk, rfl, hall, hx⟩ := hrel
    have HC := Lib.hid hall
    clear hall
    have XR := Lib.hid (And.intro (XP.out.1.trans hx) (XP.out.2.trans hx))
    by_cases hlt : k < q
    · obtain ⟨b, o, rfl, hbl, hc⟩ := (hr3.ext XR.out.1).at (by omega)
      have hck := hc k hlt
      have hsz := hr3.size hlt
      have hki : (k : Int) < q := by omega
      clear hc
      go_wp2_with fail
      refine (spelled_any _ _ _ _ _ _ (hr.ext XR.out.1) hsz hl (hmax.ext XR.out.1)).mono ?_
      rintro e w3 ⟨a4, c4, rfl, _, x3⟩
      cases h : (spellsO ss (splitC 32 (nthS ls k))).isSome
      · have HZ := Lib.hid (codeN_nf HA.out HP.out (by rw [hln, HW.out]) (all_bad (p := canB ss) (by omega) h))
        have x4 := XR.out.2.trans x3
        have b0 : w3.cell? ⟨w.heap.size, 0, none⟩ = some (.slice none 0 0) := box_keptG x4 0
        have b1 : w3.cell? ⟨w.heap.size, 1, none⟩ = some (.slice none 0 0) := box_keptG x4 1
        have f0 := box_frozen x4 0
        have f1 := box_frozen x4 1
        clear h
        go_wp2
        exact bodyPost_ret (v := .tuple #[.agg #[.slice none 0 0, .slice none 0 0], .int .i64 4]) (by simp [results, Tryz.results33, go_sem, b0, b1]) rfl ⟨_, _, _, _, _, _, by rw [HZ.out], by rw [HZ.out]; intro h; exact absurd h (by decide), wrote2 (XR.out.1.trans x3) _ _⟩
      · have HH := Lib.hid (show canB ss (nthS ls k) = true from h)
        clear h
        go_wp2
        go_roundw
        case rel =>
          refine ⟨k + 1, by omega, by go_num, fun j hj => ?_, hx.trans x3⟩
          by_cases e : j = k
          · rw [e]; exact HH.out
          · exact HC.out j (by omega)
        case measure => simp [intOf]; omega
    · obtain rfl : k = q := by omega
      have HZ := Lib.hid (codeN_ok HA.out HP.out (by rw [hln, HW.out]) (all_good (p := canB ss) (ls := ls) fun j hj => HC.out j (by omega)))
      have b0 : wr.cell? ⟨w.heap.size, 0, none⟩ = some (.slice none 0 0) := box_keptG XR.out.2 0
      have b1 : wr.cell? ⟨w.heap.size, 1, none⟩ = some (.slice none 0 0) := box_keptG XR.out.2 1
      have f0 := box_frozen XR.out.2 0
      have f1 := box_frozen XR.out.2 1
      go_wp2
      exact bodyPost_ret (v := .tuple #[.agg #[.slice a n c, .slice a2 m c2], .int .i64 0]) (by simp [results, Tryz.results33, go_sem, b0, b1]) rfl ⟨_, _, _, _, _, _, by rw [HZ.out], by intro _; exact ⟨rfl, rfl⟩, wrote2 XR.out.1 _ _⟩

theorem res2 {w1 : World} {b : Nat} {u v p0 p1 : Value} {cs : Array Value} {T : TypeId} (h0 : w1.cell? ⟨b, 0, none⟩ = some p0) (h1 : w1.cell? ⟨b, 1, none⟩ = some p1) (hlt : b < w1.heap.size) :
    (((w1.setCell ⟨b, 0, none⟩ u).setCell ⟨b, 1, none⟩ v).alloc (.cells cs T)).cell? ⟨b, 0, none⟩ = some u ∧ (((w1.setCell ⟨b, 0, none⟩ u).setCell ⟨b, 1, none⟩ v).alloc (.cells cs T)).cell? ⟨b, 1, none⟩ = some v := by
  have hl : b < ((w1.setCell ⟨b, 0, none⟩ u).setCell ⟨b, 1, none⟩ v).heap.size := by simpa using hlt
  have a0 : (w1.setCell ⟨b, 0, none⟩ u).cell? ⟨b, 0, none⟩ = some u := World.cell?_setCell_same _ _ _ h0
  have a1 : (w1.setCell ⟨b, 0, none⟩ u).cell? ⟨b, 1, none⟩ = some p1 := (World.cell?_setCell_other _ _ _ _ (fun e => by cases e)).trans h1
  refine ⟨(Below.cell ((Ext.refl _).alloc _) (p := ⟨b, 0, none⟩) hl).trans ?_, (Below.cell ((Ext.refl _).alloc _) (p := ⟨b, 1, none⟩) hl).trans (World.cell?_setCell_same _ _ _ a1)⟩
  exact (World.cell?_setCell_other _ _ _ _ (fun e => by cases e)).trans a0

set_option maxRecDepth 100000 in
set_option maxHeartbeats 2000000 in
theorem listSorter_any (a a2 a3 : Option Addr) (n c m c2 q c3 : Nat) (ss ls : List ByteArray) (ig : List Int) (w : World) (hr : RdS w a n ss) (hcap : n ≤ c) (hr2 : RdI w a2 m ig) (hr3 : RdS w a3 q ls) (hmax : MaxW w) :
    Calls Tryz.prog 22 #[.slice a n c, .slice a2 m c2, .slice a3 q c3] w (RetX w (codeL ss ls ig) (.slice a n c) (.slice a2 m c2)) := by
  have hm3 := hr3.le
  have hln3 := hr3.len
  have xb := (Ext.refl w).alloc (.cells #[.slice none 0 0, .slice none 0 0] 46)
  go_enter Tryz.func22, Tryz.ntmps22
  go_wp2_with fail
  refine (newSorter_any _ _ _ _ _ _ _ _ _ _ _ _ _ (hr.ext xb) hcap (hr2.ext xb) (hr3.ext xb) (hmax.ext xb)).mono ?_
  rintro e w1 ⟨ua, un, uc, va, vn, vc, rfl, huv, x1⟩
  have x2 := x1.alloc (.cells #[.slice ua un uc, .slice va vn vc] 46)
  have hsz := x1.size
  have hwb : w.heap.size < w1.heap.size := by simp at hsz; omega
  have hne : ¬ w.heap.size = w1.heap.size := by omega
  have hne2 : ¬ w1.heap.size = w.heap.size := by omega
  have b0 : (w1.alloc (.cells #[.slice ua un uc, .slice va vn vc] 46)).cell? ⟨w.heap.size, 0, none⟩ = some (.slice none 0 0) := box_keptG x2 0
  have b1 : (w1.alloc (.cells #[.slice ua un uc, .slice va vn vc] 46)).cell? ⟨w.heap.size, 1, none⟩ = some (.slice none 0 0) := box_keptG x2 1
  have f0 := box_frozen x2 0
  have f1 := box_frozen x2 1
  have d0 : (w1.alloc (.cells #[.slice ua un uc, .slice va vn vc] 46)).cell? ⟨w1.heap.size, 0, none⟩ = some (.slice ua un uc) := box_keptG (Ext.refl _) 0
  have d1 : (w1.alloc (.cells #[.slice ua un uc, .slice va vn vc] 46)).cell? ⟨w1.heap.size, 1, none⟩ = some (.slice va vn vc) := box_keptG (Ext.refl _) 1
  have e0 : w1.cell? ⟨w.heap.size, 0, none⟩ = some (.slice none 0 0) := box_keptG x1 0
  have e1 : w1.cell? ⟨w.heap.size, 1, none⟩ = some (.slice none 0 0) := box_keptG x1 1
  have g0 := box_frozen x1 0
  have g1 := box_frozen x1 1
  have RS := Lib.hid (fun u v => res2 (u := u) (v := v) (cs := #[.slice ua un uc, .slice va vn vc]) (T := 46) e0 e1 hwb)
  have XH := Lib.hid (xb.trans x1)
  have HU := Lib.hid huv
  clear huv x1 xb hsz
  cases hc : (codeN ss ls ig == 0)
  · have hk : codeN ss ls ig ≠ 0 := by simpa using hc
    have HZ := Lib.hid (And.intro (codeL_ne (ig := ig) rfl hk) hk)
    clear hk
    go_wp2
    exact bodyPost_ret (v := .tuple #[.agg #[.slice ua un uc, .slice va vn vc], .int .i64 (codeN ss ls ig)]) (by simp [results, Tryz.results22, go_sem, RS.out]) rfl ⟨_, _, _, _, _, _, by rw [HZ.out.1], by rw [HZ.out.1]; intro h; exact absurd h HZ.out.2, (wrote2 XH.out _ _).alloc _⟩
  · have hk : codeN ss ls ig = 0 := by simpa using hc
    by_cases hl : 20 < ls.length
    · have HZ := Lib.hid (codeL_lim hk hl)
      have hli : (20 : Int) < q := by omega
      clear hk
      go_wp2
      exact bodyPost_ret (v := .tuple #[.agg #[.slice none 0 0, .slice none 0 0], .int .i64 3]) (by simp [results, Tryz.results22, go_sem, RS.out]) rfl ⟨_, _, _, _, _, _, by rw [HZ.out], by rw [HZ.out]; intro h; exact absurd h (by decide), (wrote2 XH.out _ _).alloc _⟩
    · have HZ := Lib.hid (And.intro (codeL_ok hk hl) hk)
      have hli : ¬ (20 : Int) < q := by omega
      clear hk
      go_wp2
      exact bodyPost_ret (v := .tuple #[.agg #[.slice ua un uc, .slice va vn vc], .int .i64 (codeN ss ls ig)]) (by simp [results, Tryz.results22, go_sem, RS.out]) rfl ⟨_, _, _, _, _, _, by rw [HZ.out.1, HZ.out.2], fun _ => HU.out HZ.out.2, (wrote2 XH.out _ _).alloc _⟩

end Go.Proofs.YtdicjpkcgeofjaaGreatDoor

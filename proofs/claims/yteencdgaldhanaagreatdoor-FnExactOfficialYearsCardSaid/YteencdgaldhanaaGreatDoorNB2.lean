/-
  BestIn on both sides.
-/
import Derived.Test.YteencdgaldhanaaGreatDoorNB
namespace Go.Proofs.YteencdgaldhanaaGreatDoor
open Go.RowKit
attribute [local go_sem ↓] Go.wp_at_zero Go.wp_at_succ

set_option maxRecDepth 100000 in
set_option maxHeartbeats 4000000 in
theorem l09Best_any (a a2 : Option Addr) (n c m c2 : Nat) (y : Int) (xs : List NameV) (ls : List ByteArray) (w : World) (hr : RdName w a n xs) (hr2 : RdS w a2 m ls) :
    Calls Tryz.prog 69 #[.slice a n c, .slice a2 m c2, .int .i64 y] w fun e w' => e = .returned (.int .i64 (bestR xs ls y)) ∧ Ext w w' := by
  have hm := hr.le
  have hln := hr.len
  have hm2 := hr2.le
  have hln2 := hr2.len
  go_enter Tryz.func69, Tryz.ntmps69
  go_wp2_with fail
  refine (l09Used_any _ _ _ _ _ _ hr).mono ?_
  rintro e w1 ⟨v, rfl, a1, n1, c1, rfl, ho, x1⟩
  have hl1 : (usedX xs y).length = n1 := (usedX_len xs y).symm.trans ho.rd.len
  have hn1 : n1 ≤ n := by
    have h1 := selN_len xs.length (hasY xs y)
    have h2 := ho.rd.len
    rw [usedL] at h2
    omega
  go_wp2
  go_loopw [8] (fun i wr => ∃ q : Nat, q ≤ m ∧ i = .int .i64 q ∧ (∀ j, j < q → bestA xs (nthS ls j) y < 0) ∧ Ext w1 wr) (fun i _ => m - (intOf i).toNat)
  case atStart => exact ⟨0, Nat.zero_le _, rfl, fun j h => by omega, Ext.refl _⟩
  case round =>
    obtain ⟨q, hq, rfl, hall, hx⟩ := hrel
    have HQ := Lib.hid hall
    clear hall
    by_cases hlq : q < m
    · obtain ⟨b2, o2, rfl, hbl2, hcl⟩ := (hr2.ext (x1.trans hx)).at (by omega)
      have hck0 := hcl q hlq
      clear hcl
      have hqi : (q : Int) < m := by omega
      have hsplit := hlq
      go_wp2
      go_loopw [9, 10] (fun u i wi => ∃ k : Nat, k ≤ n1 ∧ i = .int .i64 k ∧ u = .int .i64 (bestM xs (nthS ls q) y k) ∧ Ext wr wi) (fun _ i _ => n1 - (intOf i).toNat)
      case atStart => exact ⟨0, Nat.zero_le _, rfl, rfl, Ext.refl _⟩
      case round =>
        obtain ⟨k, hk, rfl, rfl, hxi⟩ := hrel
        have hrg := bestM_range xs (nthS ls q) y k (by omega)
        have hxw := x1.trans (hx.trans hxi)
        have hck := (Below.cell hxi (p := ⟨b2, o2 + q, none⟩) hbl2).trans hck0
        by_cases hlt : k < n1
        · obtain ⟨b, o, rfl, hbl, hA⟩ := (hr.ext hxw).at (by omega)
          obtain ⟨b1, o1, rfl, hbl1, hU⟩ := (ho.rd.ext (hx.trans hxi)).at (by omega)
          have hcu := hU k hlt
          have hst := bestM_step (xs := xs) (l := nthS ls q) (y := y) (m := k) (by omega)
          obtain ⟨hu1, hu2⟩ := usedX_get (xs := xs) (y := y) (m := k) (by omega)
          rw [hu1] at hcu
          clear hu1 hU
          obtain ⟨p, hp⟩ : ∃ p, p = (usedX xs y)[k]'(by omega) := ⟨_, rfl⟩
          rw [← hp] at hst hcu hu2
          clear hp
          obtain ⟨_, g1, g2, _, _⟩ := hA p (by omega)
          have hp0 : (0 : Int) ≤ p := by omega
          have hpi : (p : Int) < n := by omega
          have hki : (k : Int) < n1 := by omega
          have HA := Lib.hid hA
          clear hA
          by_cases hl : (nthName xs p).lang = nthS ls q
          · have hbe := beqS_eq hl
            have HL := Lib.hid hl
            clear hl
            by_cases hneg : bestM xs (nthS ls q) y k < 0
            · have HS := Lib.hid (hst.trans (bestS_new HL.out hneg))
              clear hst
              go_wp2
              go_quiet (fail)
              go_wp2
              go_roundw
              case rel => exact ⟨k + 1, by omega, by go_num, by rw [HS.out], hxi.drewN _⟩
              case measure => simp [intOf]; omega
            · obtain ⟨bb, hbb⟩ := Int.eq_ofNat_of_zero_le (show 0 ≤ bestM xs (nthS ls q) y k by omega)
              rw [hbb] at hrg hneg hst ⊢
              have hbbn : bb < n := by omega
              obtain ⟨_, _, g3, _, _⟩ := HA.out bb hbbn
              have hbi : (bb : Int) < n := by omega
              have hb0 : (0 : Int) ≤ bb := by omega
              by_cases hlt2 : (nthName xs p).status < (nthName xs bb).status
              · have HS := Lib.hid (hst.trans (bestS_more HL.out hlt2))
                clear hst hbb
                go_wp2
                go_quiet (fail)
                go_wp2
                go_roundw
                case rel => exact ⟨k + 1, by omega, by go_num, by rw [HS.out], hxi.drewN _⟩
                case measure => simp [intOf]; omega
              · have HS := Lib.hid (hst.trans (bestS_less hlt2))
                clear hst hbb
                go_wp2
                go_quiet (fail)
                go_wp2
                go_roundw
                case rel => exact ⟨k + 1, by omega, by go_num, by rw [HS.out], hxi.drewN _⟩
                case measure => simp [intOf]; omega
          · have hbe := beqS_ne hl
            have HS := Lib.hid (hst.trans (bestS_lang hl))
            clear hl hst
            go_wp2
            go_quiet (fail)
            go_wp2
            go_roundw
            case rel => exact ⟨k + 1, by omega, by go_num, by rw [HS.out], hxi.drewN _⟩
            case measure => simp [intOf]; omega
        · obtain rfl : k = n1 := by omega
          have hall : bestM xs (nthS ls q) y k = bestA xs (nthS ls q) y := by rw [← hl1, bestM_all]
          by_cases h0 : 0 ≤ bestM xs (nthS ls q) y k
          · have H0 := Lib.hid hall
            clear hall
            go_wp2
            go_ret
            exact ⟨ret_int (by rw [H0.out, bestR_at (q := q) (by omega) (by rw [← H0.out]; exact h0) HQ.out]), hxw⟩
          · have H0 := Lib.hid hall
            clear hall
            go_wp2
            go_roundw
            case rel =>
              refine ⟨q + 1, by omega, by go_num, fun j hj => ?_, hx.trans hxi⟩
              by_cases e : j = q
              · subst e; rw [← H0.out]; omega
              · exact HQ.out j (by omega)
            case measure => simp [intOf]; omega
    · obtain rfl : q = m := by omega
      go_wp2
      go_ret
      exact ⟨ret_int (bestR_none (fun j hj => HQ.out j (by omega))).symm, x1.trans hx⟩

def bstC (xs : List NameV) (ls : List ByteArray) (y : Int) : Int := if codeN xs (langsB ls) y = 0 then (if bestR xs ls y < 0 then 4 else 0) else codeN xs (langsB ls) y
def bstV (xs : List NameV) (ls : List ByteArray) (y : Int) : Int := if codeN xs (langsB ls) y = 0 ∧ 0 ≤ bestR xs ls y then bestR xs ls y else 0
theorem bst_code {xs : List NameV} {ls : List ByteArray} {y : Int} (h : codeN xs (langsB ls) y ≠ 0) : bstV xs ls y = 0 ∧ bstC xs ls y = codeN xs (langsB ls) y := ⟨if_neg fun h2 => h h2.1, if_neg h⟩
theorem bst_none {xs : List NameV} {ls : List ByteArray} {y : Int} (h : codeN xs (langsB ls) y = 0) (h2 : bestR xs ls y < 0) : bstV xs ls y = 0 ∧ bstC xs ls y = 4 := ⟨if_neg fun h3 => by omega, by rw [bstC, if_pos h, if_pos h2]⟩
theorem bst_some {xs : List NameV} {ls : List ByteArray} {y : Int} (h : codeN xs (langsB ls) y = 0) (h2 : ¬ bestR xs ls y < 0) : bstV xs ls y = bestR xs ls y ∧ bstC xs ls y = 0 := ⟨if_pos ⟨h, by omega⟩, by rw [bstC, if_pos h, if_neg h2]⟩

set_option maxRecDepth 100000 in
set_option maxHeartbeats 4000000 in
theorem specBestIn_any (a a2 : Option Addr) (n c m c2 : Nat) (y : Int) (xs : List NameV) (ls : List ByteArray) (w : World) (hr : RdName w a n xs) (hr2 : RdS w a2 m ls) :
    Calls Tryz.prog 27 #[.slice a n c, .slice a2 m c2, .int .i64 y] w (RetIC w (bstV xs ls y) (bstC xs ls y)) := by
  have hm := hr.le
  have hln := hr.len
  have hm2 := hr2.le
  have hln2 := hr2.len
  go_enter Tryz.func27, Tryz.ntmps27
  go_wp2
  go_loopw [8] (fun i wr => ∃ q : Nat, q ≤ m ∧ i = .int .i64 q ∧ (∀ j, j < q → langB (nthS ls j) = true) ∧ Ext w wr) (fun i _ => m - (intOf i).toNat)
  case atStart => exact ⟨0, Nat.zero_le _, rfl, fun j h => by omega, Ext.refl _⟩
  case round =>
    obtain ⟨q, hq, rfl, hall, hx⟩ := hrel
    have HQ := Lib.hid hall
    clear hall
    by_cases hlq : q < m
    · obtain ⟨b2, o2, rfl, hbl2, hcl⟩ := (hr2.ext hx).at (by omega)
      have hck := hcl q hlq
      clear hcl
      have hqi : (q : Int) < m := by omega
      have hsz := hr2.size hlq
      cases hlb : langB (nthS ls q)
      · have hc1 : codeN xs (langsB ls) y = 1 := codeN_bad (.inr (langsB_bad (k := q) (by omega) hlb))
        have HZ := Lib.hid (And.intro hlb (bst_code (xs := xs) (ls := ls) (y := y) (by rw [hc1]; decide)))
        have HC := Lib.hid hc1
        clear hlb hc1
        go_wp2_with fail
        refine (l09Language_any _ _ (by omega)).mono ?_
        rintro e w2 ⟨rfl, rfl⟩
        rw [HZ.out.1]
        go_wp2
        go_ret2
        rw [RetIC, HZ.out.2.1, HZ.out.2.2, HC.out]
        exact ⟨rfl, hx⟩
      · have HZ := Lib.hid hlb
        clear hlb
        go_wp2_with fail
        refine (l09Language_any _ _ (by omega)).mono ?_
        rintro e w2 ⟨rfl, rfl⟩
        rw [HZ.out]
        go_wp2
        go_roundw
        case rel => exact ⟨q + 1, by omega, by go_num, fun j hj => (Nat.lt_succ_iff_lt_or_eq.1 hj).elim (HQ.out j) (fun e => e ▸ HZ.out), hx⟩
        case measure => simp [intOf]; omega
    · obtain rfl : q = m := by omega
      have hlg : langsB ls = true := langsB_good (fun j hj => HQ.out j (by omega))
      have hcd : codeN xs (langB ⟨#[97, 97]⟩) y = codeN xs (langsB ls) y := by rw [hlg, aa_lang]
      by_cases hc : codeN xs (langsB ls) y = 0
      · have HC := Lib.hid (And.intro hc hcd)
        clear hlg hcd hc
        go_wp2_with fail
        refine (l09Code_any _ _ _ _ _ _ _ (hr.ext hx) (by decide)).mono ?_
        rintro e w2 ⟨rfl, e2⟩
        rw [HC.out.2, HC.out.1]
        go_wp2_with fail
        refine (l09Best_any _ _ _ _ _ _ _ _ _ _ (hr.ext (hx.trans e2)) (hr2.ext (hx.trans e2))).mono ?_
        rintro e w3 ⟨rfl, e3⟩
        by_cases h2 : bestR xs ls y < 0
        · have HB := Lib.hid (bst_none HC.out.1 h2)
          go_wp2
          go_ret2
          rw [RetIC, HB.out.1, HB.out.2]
          exact ⟨rfl, (hx.trans e2).trans e3⟩
        · have HB := Lib.hid (bst_some HC.out.1 h2)
          go_wp2
          go_ret2
          rw [RetIC, HB.out.1, HB.out.2]
          exact ⟨rfl, (hx.trans e2).trans e3⟩
      · have hb : (codeN xs (langsB ls) y == 0) = false := by simpa using hc
        have HC := Lib.hid (And.intro (bst_code hc) hcd)
        clear hlg hcd hc
        go_wp2_with fail
        refine (l09Code_any _ _ _ _ _ _ _ (hr.ext hx) (by decide)).mono ?_
        rintro e w2 ⟨rfl, e2⟩
        rw [HC.out.2]
        go_wp2
        go_ret2
        rw [RetIC, HC.out.1.1, HC.out.1.2]
        exact ⟨rfl, hx.trans e2⟩

set_option maxRecDepth 100000 in
set_option maxHeartbeats 2000000 in
theorem implBestIn_any (a a2 : Option Addr) (n c m c2 : Nat) (y : Int) (xs : List NameV) (ls : List ByteArray) (w : World) (hr : RdName w a n xs) (hcap : n ≤ c) (hr2 : RdS w a2 m ls) (hmax : MaxW w) :
    Calls Tryz.prog 26 #[.slice a n c, .slice a2 m c2, .int .i64 y] w (RetIC w (bstV xs ls y) (bstC xs ls y)) := by
  cases hn : namesB xs
  · have hc1 : codeN xs (langsB ls) y = 1 := codeN_bad (.inl hn)
    have HZ := Lib.hid (And.intro hn (And.intro hc1 (bst_code (xs := xs) (ls := ls) (y := y) (by rw [hc1]; decide))))
    clear hn hc1
    go_enter Tryz.func26, Tryz.ntmps26
    go_wp2_with fail
    refine (implAreNames_any _ _ _ _ _ hr hcap hmax).mono ?_
    rintro e w1 ⟨rfl, e1⟩
    rw [HZ.out.1]
    go_wp2
    go_ret2
    rw [RetIC, HZ.out.2.2.1, HZ.out.2.2.2, HZ.out.2.1]
    exact ⟨rfl, e1⟩
  cases hl : langsB ls
  · have hc1 : codeN xs (langsB ls) y = 1 := codeN_bad (.inr hl)
    have HZ := Lib.hid (And.intro hn (And.intro hc1 (bst_code (xs := xs) (ls := ls) (y := y) (by rw [hc1]; decide))))
    have HL := Lib.hid hl
    clear hn hc1 hl
    go_enter Tryz.func26, Tryz.ntmps26
    go_wp2_with fail
    refine (implAreNames_any _ _ _ _ _ hr hcap hmax).mono ?_
    rintro e w1 ⟨rfl, e1⟩
    rw [HZ.out.1]
    go_wp2_with fail
    refine (areLanguages_any _ _ _ _ _ (hr2.ext e1)).mono ?_
    rintro e w2 ⟨rfl, e2⟩
    rw [HL.out]
    go_wp2
    go_ret2
    rw [RetIC, HZ.out.2.2.1, HZ.out.2.2.2, HZ.out.2.1]
    exact ⟨rfl, e1.trans e2⟩
  cases hy : inB y (-3000) 3000
  · have hc1 : codeN xs (langsB ls) y = 2 := codeN_range hn hl hy
    have HZ := Lib.hid (And.intro hn (And.intro hc1 (bst_code (xs := xs) (ls := ls) (y := y) (by rw [hc1]; decide))))
    have HL := Lib.hid (And.intro hl hy)
    clear hn hc1 hl hy
    go_enter Tryz.func26, Tryz.ntmps26
    go_wp2_with fail
    refine (implAreNames_any _ _ _ _ _ hr hcap hmax).mono ?_
    rintro e w1 ⟨rfl, e1⟩
    rw [HZ.out.1]
    go_wp2_with fail
    refine (areLanguages_any _ _ _ _ _ (hr2.ext e1)).mono ?_
    rintro e w2 ⟨rfl, e2⟩
    rw [HL.out.1]
    go_wp2_with fail
    refine (isYear_any _ _).mono ?_
    rintro e w3 ⟨rfl, rfl⟩
    rw [HL.out.2]
    go_wp2
    go_ret2
    rw [RetIC, HZ.out.2.2.1, HZ.out.2.2.2, HZ.out.2.1]
    exact ⟨rfl, e1.trans e2⟩
  · have hc1 : codeN xs (langsB ls) y = 0 := codeN_ok hn hl hy
    by_cases h2 : bestR xs ls y < 0
    · have HB := Lib.hid (bst_none hc1 h2)
      have HL := Lib.hid (And.intro hn (And.intro hl hy))
      clear hn hc1 hl hy
      go_enter Tryz.func26, Tryz.ntmps26
      go_wp2_with fail
      refine (implAreNames_any _ _ _ _ _ hr hcap hmax).mono ?_
      rintro e w1 ⟨rfl, e1⟩
      rw [HL.out.1]
      go_wp2_with fail
      refine (areLanguages_any _ _ _ _ _ (hr2.ext e1)).mono ?_
      rintro e w2 ⟨rfl, e2⟩
      rw [HL.out.2.1]
      go_wp2_with fail
      refine (isYear_any _ _).mono ?_
      rintro e w3 ⟨rfl, rfl⟩
      rw [HL.out.2.2]
      go_wp2_with fail
      refine (bestIn_any _ _ _ _ _ _ _ _ _ _ (hr.ext (e1.trans e2)) (hr2.ext (e1.trans e2))).mono ?_
      rintro e w4 ⟨rfl, e4⟩
      go_wp2
      go_ret2
      rw [RetIC, HB.out.1, HB.out.2]
      exact ⟨rfl, (e1.trans e2).trans e4⟩
    · have HB := Lib.hid (bst_some hc1 h2)
      have HL := Lib.hid (And.intro hn (And.intro hl hy))
      clear hn hc1 hl hy
      go_enter Tryz.func26, Tryz.ntmps26
      go_wp2_with fail
      refine (implAreNames_any _ _ _ _ _ hr hcap hmax).mono ?_
      rintro e w1 ⟨rfl, e1⟩
      rw [HL.out.1]
      go_wp2_with fail
      refine (areLanguages_any _ _ _ _ _ (hr2.ext e1)).mono ?_
      rintro e w2 ⟨rfl, e2⟩
      rw [HL.out.2.1]
      go_wp2_with fail
      refine (isYear_any _ _).mono ?_
      rintro e w3 ⟨rfl, rfl⟩
      rw [HL.out.2.2]
      go_wp2_with fail
      refine (bestIn_any _ _ _ _ _ _ _ _ _ _ (hr.ext (e1.trans e2)) (hr2.ext (e1.trans e2))).mono ?_
      rintro e w4 ⟨rfl, e4⟩
      go_wp2
      go_ret2
      rw [RetIC, HB.out.1, HB.out.2]
      exact ⟨rfl, (e1.trans e2).trans e4⟩

theorem InS.ext {w w' : World} {a : Option Addr} {n : Nat} {ss : List ByteArray} (h : InS w a n ss) (x : Ext w w') : InS w' a n ss := ⟨h.1, h.2.1, h.2.2.1.ext x, h.2.2.2⟩

end Go.Proofs.YteencdgaldhanaaGreatDoor

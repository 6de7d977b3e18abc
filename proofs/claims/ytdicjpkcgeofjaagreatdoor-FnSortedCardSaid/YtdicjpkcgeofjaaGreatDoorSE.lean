/-
  The reference's code of an alphabet, phrases and ignored letters.
-/
import Derived.Test.YtdicjpkcgeofjaaGreatDoorSD
namespace Go.Proofs.YtdicjpkcgeofjaaGreatDoor
open Go.RowKit

theorem can_no {ss : List ByteArray} {s : ByteArray} (hp : phraseB s = true) {k : Nat} (hk : k < (phraseT s).length) (h : (spellO ss (nthS (phraseT s) k)).isSome = false) : canB ss s = false := by
  have hw : wordsB (splitC 32 s) = true := by rw [phraseB, Bool.and_eq_true] at hp; exact hp.2
  rw [phraseT_good hw] at hk h
  cases hc : canB ss s
  · rfl
  · have := spellsO_isSome hc hk
    rw [this] at h; cases h
theorem can_yes {ss : List ByteArray} {s : ByteArray} (hp : phraseB s = true) (h : ∀ k, k < (phraseT s).length → (spellO ss (nthS (phraseT s) k)).isSome = true) : canB ss s = true := by
  have hw : wordsB (splitC 32 s) = true := by rw [phraseB, Bool.and_eq_true] at hp; exact hp.2
  rw [phraseT_good hw] at h
  rw [canB, spellsO_some h]; rfl

set_option maxRecDepth 100000 in
set_option maxHeartbeats 2000000 in
theorem l06Code_any (a a3 a2 : Option Addr) (n c q c3 m c2 : Nat) (ss ls : List ByteArray) (ig : List Int) (w : World) (hr : RdS w a n ss) (hr3 : RdS w a3 q ls) (hr2 : RdI w a2 m ig) :
    Calls Tryz.prog 26 #[.slice a n c, .slice a3 q c3, .slice a2 m c2] w fun e w' => e = .returned (.int .i64 (codeL ss ls ig)) ∧ Ext w w' := by
  have hm := hr.le
  have hln := hr.len
  have hm3 := hr3.le
  have hln3 := hr3.len
  have hm2 := hr2.le
  have hln2 := hr2.len
  go_enter Tryz.func26, Tryz.ntmps26
  cases hA : alphaB ss
  · have HZ := Lib.hid (codeL_ne (codeN_inv (ls := ls) (ig := ig) (by rw [hA]; rfl)) (by decide))
    have HA := Lib.hid hA
    clear hA
    go_wp2_with (go_at_call 48; refine (specIsAlphabet_any _ _ _ _ _ hr).mono ?_; rintro e w' ⟨rfl, rfl⟩; rw [HA.out])
    go_ret
    exact ⟨by rw [HZ.out]; rfl, Ext.refl _⟩
  have HA := Lib.hid hA
  have hl := alpha_letters hA
  clear hA
  go_wp2_with (go_at_call 48; refine (specIsAlphabet_any _ _ _ _ _ hr).mono ?_; rintro e w' ⟨rfl, rfl⟩; rw [HA.out])
  go_loopw [7] (fun i wr => ∃ k : Nat, k ≤ q ∧ i = .int .i64 k ∧ (∀ j, j < k → phraseB (nthS ls j) = true) ∧ Ext w wr) (fun i _ => q - (intOf i).toNat)
  case atStart => exact ⟨0, Nat.zero_le _, rfl, by simp, Ext.refl _⟩
  case round =>
    obtain ⟨k, hk, rfl, hall, hx⟩ := hrel
    have HP := Lib.hid hall
    clear hall
    by_cases hlt : k < q
    · obtain ⟨b, o, rfl, hbl, hc⟩ := (hr3.ext hx).at (by omega)
      have hck := hc k hlt
      have hsz := hr3.size hlt
      have hki : (k : Int) < q := by omega
      clear hc
      go_wp2_with fail
      refine (specIsPhrase_any _ _ hsz).mono ?_
      rintro e w1 ⟨rfl, x1⟩
      cases h : phraseB (nthS ls k)
      · have HZ := Lib.hid (codeL_ne (codeN_inv (ss := ss) (ls := ls) (ig := ig) (by rw [phrasesB, all_bad (by omega) h, Bool.and_false])) (by decide))
        clear h
        go_wp2
        go_ret
        exact ⟨by rw [HZ.out]; rfl, hx.trans x1⟩
      · have HH := Lib.hid h
        clear h
        go_wp2
        go_roundw
        case rel =>
          refine ⟨k + 1, by omega, by go_num, fun j hj => ?_, hx.trans x1⟩
          by_cases e : j = k
          · rw [e]; exact HH.out
          · exact HP.out j (by omega)
        case measure => simp [intOf]; omega
    · obtain rfl : k = q := by omega
      have HPA := Lib.hid (all_good (p := phraseB) (ls := ls) fun j hj => HP.out j (by omega))
      have hr2x := hr2.ext hx
      rename World => w1
      go_wp2
      go_loopw [8] (fun i wr => ∃ j : Nat, j ≤ m ∧ i = .int .i64 j ∧ (∀ p, p < j → inB (nth ig p) 0 ((n : Int) - 1) = true) ∧ w1 = wr) (fun i _ => m - (intOf i).toNat)
      case atStart => exact ⟨0, Nat.zero_le _, rfl, by simp, rfl⟩
      case round =>
        obtain ⟨j, hj, rfl, hall, rfl⟩ := hrel
        have HI := Lib.hid hall
        clear hall
        have hw1 : IntKind.i64.wrap ((n : Int) - 1) = (n : Int) - 1 := IntWalk.i64_in _ (by omega)
        by_cases hjl : j < m
        · obtain ⟨b, o, rfl, hbl, hc⟩ := hr2x.at (by omega)
          have hcj := hc j hjl
          have hji : (j : Int) < m := by omega
          clear hc
          cases h : inB (nth ig j) 0 ((n : Int) - 1)
          · have hbad : allIn ig 0 ((ss.length : Int) - 1) = false := by
              rw [allIn, List.all_eq_false]
              exact ⟨nth ig j, by rw [nth_eq (by omega)]; exact List.getElem_mem _, by rw [hln, h]; decide⟩
            have HZ := Lib.hid (codeL_ne (codeN_rng HA.out HPA.out hbad) (by decide))
            have HH := Lib.hid h
            clear h hbad
            go_wp2_with (go_at_call 50; refine (l01In_any _ _ _ _).mono ?_; rintro e w' ⟨rfl, rfl⟩; rw [HH.out])
            go_ret
            exact ⟨by rw [HZ.out]; rfl, hx⟩
          · have HH := Lib.hid h
            clear h
            go_wp2_with (go_at_call 50; refine (l01In_any _ _ _ _).mono ?_; rintro e w' ⟨rfl, rfl⟩; rw [HH.out])
            go_roundw
            case rel =>
              refine ⟨j + 1, by omega, by go_num, fun p hp => ?_, trivial⟩
              by_cases e : p = j
              · rw [e]; exact HH.out
              · exact HI.out p (by omega)
            case measure => simp [intOf]; omega
        · obtain rfl : j = m := by omega
          have hin : allIn ig 0 ((ss.length : Int) - 1) = true := by
            rw [allIn, List.all_eq_true]
            intro x hx
            obtain ⟨p, hp, rfl⟩ := List.getElem_of_mem hx
            rw [← nth_eq hp, hln]
            exact HI.out p (by omega)
          have HIN := Lib.hid hin
          clear hin
          go_wp2
          go_loopw [9] (fun i wr => ∃ p : Nat, p ≤ k ∧ i = .int .i64 p ∧ (∀ j, j < p → canB ss (nthS ls j) = true) ∧ Ext w wr) (fun i _ => k - (intOf i).toNat)
          case atStart => exact ⟨0, Nat.zero_le _, rfl, by simp, hx⟩
          case round =>
            obtain ⟨p, hp, rfl, hall, hx2⟩ := hrel
            have HC := Lib.hid hall
            clear hall
            by_cases hpl : p < k
            · obtain ⟨b, o, rfl, hbl, hc⟩ := (hr3.ext hx2).at (by omega)
              have hck := hc p hpl
              have hsz := hr3.size hpl
              have hki : (p : Int) < k := by omega
              have HPH := Lib.hid (HP.out p hpl)
              clear hc
              go_wp2_with fail
              refine (l01Phrase_any _ _ hsz).mono ?_
              rintro e w4 ⟨v, rfl, a5, n5, c5, rfl, o5, x5⟩
              have r5 := o5.rd
              have hl5 := r5.len
              have hm5 := r5.le
              have X5 := Lib.hid (hx2.trans x5)
              clear o5
              go_wp2
              go_loopw [12] (fun i wr => ∃ j : Nat, j ≤ n5 ∧ i = .int .i64 j ∧ (∀ i, i < j → (spellO ss (nthS (phraseT (nthS ls p)) i)).isSome = true) ∧ Ext w4 wr) (fun i _ => n5 - (intOf i).toNat)
              case atStart => exact ⟨0, Nat.zero_le _, rfl, by simp, Ext.refl _⟩
              case round =>
                obtain ⟨j, hj, rfl, hall, hx6⟩ := hrel
                have HS := Lib.hid hall
                clear hall
                by_cases hjl : j < n5
                · obtain ⟨b5, o5, rfl, hbl5, hc5⟩ := (r5.ext hx6).at (by omega)
                  have hcj := hc5 j hjl
                  have hszj := r5.size hjl
                  have hji : (j : Int) < n5 := by omega
                  clear hc5
                  go_wp2_with fail
                  refine (l03Spell_any _ _ _ _ _ _ (hr.ext (X5.out.trans hx6)) hszj hl).mono ?_
                  rintro e w7 ⟨v, rfl, a7, c7, rfl, _, x7⟩
                  cases h : (spellO ss (nthS (phraseT (nthS ls p)) j)).isSome
                  · have HZ := Lib.hid (codeL_ne (codeN_nf HA.out HPA.out HIN.out (all_bad (by omega) (can_no HPH.out (by omega) h))) (by decide))
                    clear h
                    go_wp2
                    go_ret
                    exact ⟨by rw [HZ.out]; rfl, (X5.out.trans hx6).trans x7⟩
                  · have HH := Lib.hid h
                    clear h
                    go_wp2
                    go_roundw
                    case rel =>
                      refine ⟨j + 1, by omega, by go_num, fun i hi => ?_, hx6.trans x7⟩
                      by_cases e : i = j
                      · rw [e]; exact HH.out
                      · exact HS.out i (by omega)
                    case measure => simp [intOf]; omega
                · obtain rfl : j = n5 := by omega
                  have HY := Lib.hid (can_yes (ss := ss) HPH.out fun i hi => HS.out i (by omega))
                  go_wp2
                  go_roundw
                  case rel =>
                    refine ⟨p + 1, by omega, by go_num, fun i hi => ?_, X5.out.trans hx6⟩
                    by_cases e : i = p
                    · rw [e]; exact HY.out
                    · exact HC.out i (by omega)
                  case measure => simp [intOf]; omega
            · obtain rfl : p = k := by omega
              have H0 := codeN_ok (ls := ls) HA.out HPA.out HIN.out (all_good (p := canB ss) fun j hj => HC.out j (by omega))
              by_cases h20 : 20 < p
              · have HZ := Lib.hid (codeL_lim H0 (by omega))
                have h20i : (20 : Int) < p := by omega
                clear H0
                go_wp2
                go_ret
                exact ⟨by rw [HZ.out]; rfl, hx2⟩
              · have HZ := Lib.hid (codeL_ok H0 (by omega))
                have h20i : ¬ (20 : Int) < p := by omega
                clear H0
                go_wp2
                go_ret
                exact ⟨by rw [HZ.out]; rfl, hx2⟩

end Go.Proofs.YtdicjpkcgeofjaaGreatDoor

/-
  The walks of SharperTable, the program's and the reference's.
-/
import Derived.Test.YtfglmoedicijkaaDoorE
import Derived.Deep.QuietTactic
import Derived.BigQuiet
namespace Go.Proofs.YtfglmoedicijkaaDoor
open Go.RowKit

/-- a tells the letters i and k apart, or b does not. -/
def pairB (a b : List Int) (i k : Nat) : Bool := !(nth a i == nth a k && nth b i != nth b k)
def sharpB (a b : List Int) : Bool := (List.range 26).all fun i => (List.range 26).all fun k => pairB a b i k
theorem pairB_comm (a b : List Int) (i k : Nat) : pairB a b i k = pairB a b k i := by
  simp only [pairB]
  rw [Bool.beq_comm, bne_comm]
theorem pairB_self (a b : List Int) (i : Nat) : pairB a b i i = true := by simp [pairB]
theorem sharpB_bad {a b : List Int} {i k : Nat} (hi : i < 26) (hk : k < 26) (h : pairB a b i k = false) : sharpB a b = false := by
  rw [sharpB, List.all_eq_false]
  refine ⟨i, by simpa using hi, ?_⟩
  simp only [Bool.not_eq_true, List.all_eq_false]
  exact ⟨k, by simpa using hk, by simp [h]⟩
theorem sharpB_good {a b : List Int} (h : ∀ i, i < 26 → ∀ k, k < 26 → pairB a b i k = true) : sharpB a b = true := by
  rw [sharpB, List.all_eq_true]
  intro i hi
  rw [List.all_eq_true]
  intro k hk
  exact h i (by simpa using hi) k (by simpa using hk)

def sharpC (a b : List Int) : Int := if soundB a = true ∧ soundB b = true then 0 else 1
def sharpR (a b : List Int) : Bool := if soundB a = true ∧ soundB b = true then sharpB a b else false
/-- A bool and a code; nothing else. -/
def RetB0 (w : World) (b : Bool) (code : Int) (e : Ending) (w' : World) : Prop := e = .returned (.tuple #[.bool b, .int .i64 code]) ∧ Ext w w'

theorem soundB_len {zs : List Int} (h : soundB zs = true) : zs.length = 26 := by
  rw [soundB, Bool.and_eq_true] at h
  simpa using h.1

set_option maxHeartbeats 1000000 in
theorem specSharperTable_any (a : Option Addr) (n c : Nat) (b : Option Addr) (m c' : Nat) (xs ys : List Int) (w : World) (hr : RdI w a n xs) (hs : RdI w b m ys) :
    Calls Tryd.prog 24 #[.slice a n c, .slice b m c'] w (RetB0 w (sharpR xs ys) (sharpC xs ys)) := by
  cases h1 : soundB xs
  · have hz : sharpR xs ys = false ∧ sharpC xs ys = 1 := by simp [sharpR, sharpC, h1]
    have HZ := Lib.hid (And.intro hz h1)
    clear hz h1
    go_enter Tryd.func24, Tryd.ntmps24
    go_wp2_with (first | (go_at_call 59; refine (specIsSoundTable_any _ _ _ _ _ hr).mono ?_; rintro e w' ⟨rfl, rfl⟩; rw [HZ.out.2]))
    go_ret2
    rw [RetB0, HZ.out.1.1, HZ.out.1.2]
    exact ⟨rfl, Ext.refl _⟩
  · cases h2 : soundB ys
    · have hz : sharpR xs ys = false ∧ sharpC xs ys = 1 := by simp [sharpR, sharpC, h2]
      have HZ := Lib.hid (And.intro hz (And.intro h1 h2))
      clear hz h1 h2
      go_enter Tryd.func24, Tryd.ntmps24
      go_wp2_with fail
      refine (specIsSoundTable_any _ _ _ _ _ hr).mono ?_
      rintro e w' ⟨rfl, rfl⟩
      rw [HZ.out.2.1]
      go_wp2_with fail
      refine (specIsSoundTable_any _ _ _ _ _ hs).mono ?_
      rintro e w' ⟨rfl, rfl⟩
      rw [HZ.out.2.2]
      go_wp2
      go_ret2
      rw [RetB0, HZ.out.1.1, HZ.out.1.2]
      exact ⟨rfl, Ext.refl _⟩
    · have hz : sharpR xs ys = sharpB xs ys ∧ sharpC xs ys = 0 := by simp [sharpR, sharpC, h1, h2]
      have hn : n = 26 := by rw [← hr.len]; exact soundB_len h1
      have hm : m = 26 := by rw [← hs.len]; exact soundB_len h2
      subst hn hm
      have HZ := Lib.hid (And.intro hz (And.intro h1 h2))
      clear hz h1 h2
      obtain ⟨b1, o1, rfl, hb1, hc1⟩ := hr.at (by decide)
      obtain ⟨b2, o2, rfl, hb2, hc2⟩ := hs.at (by decide)
      have HC1 := Lib.hid hc1
      have HC2 := Lib.hid hc2
      clear hc1 hc2
      go_enter Tryd.func24, Tryd.ntmps24
      go_wp2_with fail
      refine (specIsSoundTable_any _ _ _ _ _ hr).mono ?_
      rintro e w' ⟨rfl, rfl⟩
      rw [HZ.out.2.1]
      go_wp2_with fail
      refine (specIsSoundTable_any _ _ _ _ _ hs).mono ?_
      rintro e w' ⟨rfl, rfl⟩
      rw [HZ.out.2.2]
      go_wp2
      go_loopw [6, 7] (fun i _ wr => ∃ k : Nat, k ≤ 26 ∧ i = .int .i64 k ∧ (∀ j, j < k → ∀ l, l < 26 → pairB xs ys j l = true) ∧ Still w wr) (fun i _ _ => 26 - (intOf i).toNat)
      case atStart => exact ⟨0, by decide, rfl, fun j hj => by omega, Still.refl _⟩
      case round =>
        obtain ⟨k, hk, rfl, hall, hst⟩ := hrel
        obtain ⟨wo, rfl⟩ : ∃ wo : World, wo = wr := ⟨_, rfl⟩
        have HA := Lib.hid hall
        clear hall
        by_cases hlt : k < 26
        · go_wp2
          go_loopw [7] (fun i wr => ∃ l : Nat, l ≤ 26 ∧ i = .int .i64 l ∧ (∀ j, j < l → pairB xs ys k j = true) ∧ Still w wr) (fun i _ => 26 - (intOf i).toNat)
          case atStart => exact ⟨0, by decide, rfl, fun j hj => by omega, hst⟩
          case round =>
            obtain ⟨l, hl, rfl, hal, hst2⟩ := hrel
            have HB := Lib.hid hal
            clear hal
            by_cases hlt2 : l < 26
            · have k1 := (Below.cell hst2.ext (p := ⟨b1, o1 + k, none⟩) hb1).trans (HC1.out k hlt)
              have k2 := (Below.cell hst2.ext (p := ⟨b1, o1 + l, none⟩) hb1).trans (HC1.out l hlt2)
              have k3 := (Below.cell hst2.ext (p := ⟨b2, o2 + k, none⟩) hb2).trans (HC2.out k hlt)
              have k4 := (Below.cell hst2.ext (p := ⟨b2, o2 + l, none⟩) hb2).trans (HC2.out l hlt2)
              have i1 : (k : Int) < 26 := by omega
              have i2 : (l : Int) < 26 := by omega
              have HS := Lib.hid hst2
              clear hst2
              cases e1 : (nth xs k == nth xs l)
              · have hp : pairB xs ys k l = true := by rw [pairB, e1]; rfl
                have HP := Lib.hid hp
                clear hp
                go_wp2
                go_quiet (fail)
                go_wp2
                go_roundw
                case rel =>
                  refine ⟨l + 1, by omega, by go_num, fun j hj => ?_, HS.out.drewN _⟩
                  by_cases e : j = l
                  · rw [e]; exact HP.out
                  · exact HB.out j (by omega)
                case measure => simp [intOf]; omega
              · cases e2 : (nth ys k != nth ys l)
                · have hp : pairB xs ys k l = true := by rw [pairB, e1, e2]; rfl
                  have HP := Lib.hid hp
                  clear hp
                  go_wp2
                  go_quiet (fail)
                  go_wp2
                  go_roundw
                  case rel =>
                    refine ⟨l + 1, by omega, by go_num, fun j hj => ?_, HS.out.drewN _⟩
                    by_cases e : j = l
                    · rw [e]; exact HP.out
                    · exact HB.out j (by omega)
                  case measure => simp [intOf]; omega
                · have hp : pairB xs ys k l = false := by rw [pairB, e1, e2]; rfl
                  have HP := Lib.hid hp
                  clear hp
                  go_wp2
                  go_quiet (fail)
                  go_wp2
                  go_ret2
                  rw [RetB0, HZ.out.1.1, HZ.out.1.2, sharpB_bad hlt hlt2 HP.out]
                  exact ⟨rfl, (HS.out.drewN _).ext⟩
            · obtain rfl : l = 26 := by omega
              go_wp2
              go_roundw
              case rel =>
                refine ⟨k + 1, by omega, by go_num, fun j hj => ?_, hst2⟩
                by_cases e : j = k
                · rw [e]; exact HB.out
                · exact HA.out j (by omega)
              case measure => simp [intOf]; omega
        · obtain rfl : k = 26 := by omega
          go_wp2
          go_ret2
          rw [RetB0, HZ.out.1.1, HZ.out.1.2, sharpB_good HA.out]
          exact ⟨rfl, hst.ext⟩

set_option maxHeartbeats 1000000 in
theorem implSharperTable_any (a : Option Addr) (n c : Nat) (b : Option Addr) (m c' : Nat) (xs ys : List Int) (w : World) (hr : RdI w a n xs) (hs : RdI w b m ys) :
    Calls Tryd.prog 23 #[.slice a n c, .slice b m c'] w (RetB0 w (sharpR xs ys) (sharpC xs ys)) := by
  cases h1 : soundB xs
  · have hz : sharpR xs ys = false ∧ sharpC xs ys = 1 := by simp [sharpR, sharpC, h1]
    have HZ := Lib.hid (And.intro hz h1)
    clear hz h1
    go_enter Tryd.func23, Tryd.ntmps23
    go_wp2_with (first | (go_at_call 41; refine (implIsSoundTable_any _ _ _ _ _ hr).mono ?_; rintro e w' ⟨rfl, rfl⟩; rw [HZ.out.2]))
    go_ret2
    rw [RetB0, HZ.out.1.1, HZ.out.1.2]
    exact ⟨rfl, Ext.refl _⟩
  · cases h2 : soundB ys
    · have hz : sharpR xs ys = false ∧ sharpC xs ys = 1 := by simp [sharpR, sharpC, h2]
      have HZ := Lib.hid (And.intro hz (And.intro h1 h2))
      clear hz h1 h2
      go_enter Tryd.func23, Tryd.ntmps23
      go_wp2_with fail
      refine (implIsSoundTable_any _ _ _ _ _ hr).mono ?_
      rintro e w' ⟨rfl, rfl⟩
      rw [HZ.out.2.1]
      go_wp2_with fail
      refine (implIsSoundTable_any _ _ _ _ _ hs).mono ?_
      rintro e w' ⟨rfl, rfl⟩
      rw [HZ.out.2.2]
      go_wp2
      go_ret2
      rw [RetB0, HZ.out.1.1, HZ.out.1.2]
      exact ⟨rfl, Ext.refl _⟩
    · have hz : sharpR xs ys = sharpB xs ys ∧ sharpC xs ys = 0 := by simp [sharpR, sharpC, h1, h2]
      have hn : n = 26 := by rw [← hr.len]; exact soundB_len h1
      have hm : m = 26 := by rw [← hs.len]; exact soundB_len h2
      subst hn hm
      have HZ := Lib.hid (And.intro hz (And.intro h1 h2))
      clear hz h1 h2
      obtain ⟨b1, o1, rfl, hb1, hc1⟩ := hr.at (by decide)
      obtain ⟨b2, o2, rfl, hb2, hc2⟩ := hs.at (by decide)
      have HC1 := Lib.hid hc1
      have HC2 := Lib.hid hc2
      clear hc1 hc2
      go_enter Tryd.func23, Tryd.ntmps23
      go_wp2_with fail
      refine (implIsSoundTable_any _ _ _ _ _ hr).mono ?_
      rintro e w' ⟨rfl, rfl⟩
      rw [HZ.out.2.1]
      go_wp2_with fail
      refine (implIsSoundTable_any _ _ _ _ _ hs).mono ?_
      rintro e w' ⟨rfl, rfl⟩
      rw [HZ.out.2.2]
      go_wp2
      go_loopw [18] (fun i wr => ∃ k : Nat, k ≤ 26 ∧ i = .int .i64 k ∧ (∀ j, j < k → ∀ l, l < j → pairB xs ys j l = true) ∧ Still w wr) (fun i _ => 26 - (intOf i).toNat)
      case atStart => exact ⟨0, by decide, rfl, fun j hj => by omega, Still.refl _⟩
      case round =>
        obtain ⟨k, hk, rfl, hall, hst⟩ := hrel
        obtain ⟨wo, rfl⟩ : ∃ wo : World, wo = wr := ⟨_, rfl⟩
        have HA := Lib.hid hall
        clear hall
        by_cases hlt : k < 26
        · go_wp2
          go_loopw [22] (fun i wr => ∃ l : Nat, l ≤ k ∧ i = .int .i64 l ∧ (∀ j, j < l → pairB xs ys k j = true) ∧ Still w wr) (fun i _ => 26 - (intOf i).toNat)
          case atStart => exact ⟨0, Nat.zero_le _, rfl, fun j hj => by omega, hst⟩
          case round =>
            obtain ⟨l, hl, rfl, hal, hst2⟩ := hrel
            have HB := Lib.hid hal
            clear hal
            by_cases hlt2 : l < k
            · have k1 := (Below.cell hst2.ext (p := ⟨b1, o1 + k, none⟩) hb1).trans (HC1.out k hlt)
              have k2 := (Below.cell hst2.ext (p := ⟨b1, o1 + l, none⟩) hb1).trans (HC1.out l (by omega))
              have k3 := (Below.cell hst2.ext (p := ⟨b2, o2 + k, none⟩) hb2).trans (HC2.out k hlt)
              have k4 := (Below.cell hst2.ext (p := ⟨b2, o2 + l, none⟩) hb2).trans (HC2.out l (by omega))
              have i1 : (k : Int) < 26 := by omega
              have i2 : (l : Int) < 26 := by omega
              have HS := Lib.hid hst2
              clear hst2
              cases e1 : (nth xs k == nth xs l)
              · have hp : pairB xs ys k l = true := by rw [pairB, e1]; rfl
                have HP := Lib.hid hp
                clear hp
                go_wp2
                go_quiet (fail)
                go_wp2
                go_roundw
                case rel =>
                  refine ⟨l + 1, by omega, by go_num, fun j hj => ?_, HS.out.drewN _⟩
                  by_cases e : j = l
                  · rw [e]; exact HP.out
                  · exact HB.out j (by omega)
                case measure => simp [intOf]; omega
              · cases e2 : (nth ys k != nth ys l)
                · have hp : pairB xs ys k l = true := by rw [pairB, e1, e2]; rfl
                  have HP := Lib.hid hp
                  clear hp
                  go_wp2
                  go_quiet (fail)
                  go_wp2
                  go_roundw
                  case rel =>
                    refine ⟨l + 1, by omega, by go_num, fun j hj => ?_, HS.out.drewN _⟩
                    by_cases e : j = l
                    · rw [e]; exact HP.out
                    · exact HB.out j (by omega)
                  case measure => simp [intOf]; omega
                · have hp : pairB xs ys k l = false := by rw [pairB, e1, e2]; rfl
                  have HP := Lib.hid hp
                  clear hp
                  go_wp2
                  go_quiet (fail)
                  go_wp2
                  go_ret2
                  rw [RetB0, HZ.out.1.1, HZ.out.1.2, sharpB_bad hlt (Nat.lt_trans hlt2 hlt) HP.out]
                  exact ⟨rfl, (HS.out.drewN _).ext⟩
            · obtain rfl : l = k := by omega
              go_wp2
              go_roundw
              case rel =>
                refine ⟨l + 1, by omega, by go_num, fun j hj => ?_, hst2⟩
                by_cases e : j = l
                · rw [e]; exact HB.out
                · exact HA.out j (by omega)
              case measure => simp [intOf]; omega
        · obtain rfl : k = 26 := by omega
          have hg : sharpB xs ys = true := sharpB_good fun i hi l hl => by
            rcases Nat.lt_trichotomy i l with h | h | h
            · rw [pairB_comm]; exact HA.out l hl i h
            · rw [h]; exact pairB_self _ _ _
            · exact HA.out i hi l h
          have HG := Lib.hid hg
          clear hg
          go_wp2
          go_ret2
          rw [RetB0, HZ.out.1.1, HZ.out.1.2, HG.out]
          exact ⟨rfl, hst.ext⟩

end Go.Proofs.YtfglmoedicijkaaDoor

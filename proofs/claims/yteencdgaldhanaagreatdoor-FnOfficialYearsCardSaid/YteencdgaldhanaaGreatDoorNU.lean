/-
  Names used in a year; the official one.
-/
import Derived.Test.YteencdgaldhanaaGreatDoorNA2
import Derived.Test.YteencdgaldhanaaGreatDoorRL
namespace Go.Proofs.YteencdgaldhanaaGreatDoor
open Go.RowKit

def hasY (xs : List NameV) (y : Int) (i : Nat) : Bool := inB y (nthName xs i).from_ (nthName xs i).to_
def usedL (xs : List NameV) (y : Int) : List Int := selN xs.length (hasY xs y)
/-- The code of names, a language (is it one?) and a year. -/
def codeN (xs : List NameV) (lb : Bool) (y : Int) : Int := if (namesB xs && lb) = true then (if inB y (-3000) 3000 = true then 0 else 2) else 1
theorem codeN_bad {xs : List NameV} {lb : Bool} {y : Int} (h : namesB xs = false ∨ lb = false) : codeN xs lb y = 1 := by
  rw [codeN, if_neg]
  rcases h with h | h <;> simp [h]
theorem codeN_range {xs : List NameV} {lb : Bool} {y : Int} (h : namesB xs = true) (h1 : lb = true) (h2 : inB y (-3000) 3000 = false) : codeN xs lb y = 2 := by
  rw [codeN, h, h1, h2]; rfl
theorem codeN_ok {xs : List NameV} {lb : Bool} {y : Int} (h : namesB xs = true) (h1 : lb = true) (h2 : inB y (-3000) 3000 = true) : codeN xs lb y = 0 := by
  rw [codeN, h, h1, h2]; rfl
theorem codeN_names {xs : List NameV} {lb : Bool} {y : Int} (h : codeN xs lb y = 0) : namesB xs = true := by
  cases hn : namesB xs
  · rw [codeN_bad (.inl hn)] at h; cases h
  · rfl
theorem namesB_len {xs : List NameV} (h : namesB xs = true) : xs.length ≤ 12 := by
  rw [namesB, Bool.and_eq_true] at h
  exact of_decide_eq_true h.2

set_option maxRecDepth 100000 in
set_option maxHeartbeats 1000000 in
theorem l09Used_any (a : Option Addr) (n c : Nat) (y : Int) (xs : List NameV) (w : World) (hr : RdName w a n xs) :
    Calls Tryz.prog 63 #[.slice a n c, .int .i64 y] w fun e w' => ∃ v, e = .returned v ∧ NewI w w' (usedL xs y) v := by
  have hm := hr.le
  have hln := hr.len
  go_enter Tryz.func63, Tryz.ntmps63
  go_wp2
  go_loopw [5, 6] (fun v i wr => ∃ k : Nat, k ≤ n ∧ i = .int .i64 k ∧ OwnV wr w.heap.size v (selN k (hasY xs y)) ∧ Ext w wr) (fun _ i _ => n - (intOf i).toNat)
  case atStart => exact ⟨0, Nat.zero_le _, rfl, OwnV.lit0 w (Nat.le_refl _), (Ext.refl _).alloc _⟩
  case round =>
    obtain ⟨k, hk, rfl, ⟨a1, n1, c1, rfl, ho⟩, hb⟩ := hrel
    by_cases hlt : k < n
    · have hn1 : n1 ≤ k := by
        have h1 := ho.rd.len
        have h2 := selN_len k (hasY xs y)
        omega
      obtain ⟨b, o, rfl, hbl, hA⟩ := (hr.ext hb).at (by omega)
      obtain ⟨hc0, hc1, hc2, hc3, hc4⟩ := hA k hlt
      clear hA hc0 hc1 hc2
      have hki : (k : Int) < n := by omega
      cases h : hasY xs y k
      · have hy := selN_no h
        have HH := Lib.hid (And.intro h hy)
        clear h hy
        go_wp2
        go_quiet (first | (go_at_call 99; exact (l01In_any _ _ _ _).mono fun _ _ h => ⟨h.1, ⟨_, h.2.symm⟩⟩))
        rw [show inB y (nthName xs k).from_ (nthName xs k).to_ = false from HH.out.1]
        go_wp2
        go_roundw
        case rel => exact ⟨k + 1, by omega, by go_num, ⟨_, _, _, rfl, by rw [HH.out.2]; exact ho.ext ((Ext.refl _).drewN _)⟩, hb.drewN _⟩
        case measure => simp [intOf]; omega
      · have hy := selN_yes h
        have HH := Lib.hid (And.intro h hy)
        clear h hy
        go_wp2
        go_quiet (first | (go_at_call 99; exact (l01In_any _ _ _ _).mono fun _ _ h => ⟨h.1, ⟨_, h.2.symm⟩⟩))
        rw [show inB y (nthName xs k).from_ (nthName xs k).to_ = true from HH.out.1]
        have ho' : OwnI _ w.heap.size a1 n1 c1 (selN k (hasY xs y)) := ho.ext ((Ext.refl _).drewN nq)
        have hb' := hb.drewN nq
        generalize wr.drewN nq = wd at ho' hb' ⊢
        go_wp2_with (first | (at_builtin; refine wpList_appI rfl _ _ rfl w.heap.size _ n1 _ rfl (ho'.alloc _) _ 1 _ [(k : Int)] rfl (RdI.new1 _ _ _) (by omega) (hb'.le_alloc _) ?_; intro a2 c2 w2 hown hgrow; have hb2 := hb'.app ho' (Nat.le_refl _) hgrow; have HO := Lib.hid hown; clear hown))
        go_roundw
        case rel => exact ⟨k + 1, by omega, by go_num, ⟨_, _, _, rfl, by rw [HH.out.2]; exact HO.out⟩, hb2⟩
        case measure => simp [intOf]; omega
    · obtain rfl : k = n := by omega
      go_wp2
      go_ret
      exact ⟨_, rfl, _, _, _, rfl, by rw [usedL, hln]; exact ho, hb⟩

end Go.Proofs.YteencdgaldhanaaGreatDoor

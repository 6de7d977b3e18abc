/-
  The walks of KindsOf and IsKindOf, the program's and the reference's.
-/
import Derived.Test.YtdacmbclkpgngaaGreatDoorD2
namespace Go.Proofs.YtdacmbclkpgngaaGreatDoor
open Go.RowKit

/-- Where the code is not 0 the two functions answer 0 and the code. -/
theorem code_cases (zs l : List Int) : codeL zs l = 0 ∨ codeL zs l ≠ 0 := by omega

/-- What KindsOf answers. -/
def kindsR (zs : List Int) (x : Int) : List Int := if codeL zs [x] = 0 then kinds zs x else []


theorem codeL_two {zs : List Int} {x y : Int} (h : codeL zs [x, y] = 0) : Tree zs ∧ (0 ≤ x ∧ x < zs.length) ∧ (0 ≤ y ∧ y < zs.length) :=
  ⟨codeL_tree h, codeL_in h x (by simp), codeL_in h y (by simp)⟩

theorem RdI.new2 (w : World) (x y : Int) (e : TypeId) : RdI (w.alloc (.cells #[.int .i64 x, .int .i64 y] e)) (some ⟨w.heap.size, 0, none⟩) 2 [x, y] :=
  ⟨rfl, by decide, .inr ⟨_, _, rfl, by simp, fun j u hu => by
    match j with
    | 0 => simp at hu; subst hu; simp [World.cell?_alloc_at]
    | 1 => simp at hu; subst hu; simp [World.cell?_alloc_at]
    | j + 2 => simp at hu⟩⟩

set_option maxHeartbeats 400000 in
theorem isKindOf_any (a : Option Addr) (n c : Nat) (k : Nat) (y : Int) (zs : List Int) (w : World) (hr : RdI w a n zs) (ht : Tree zs) (hk : k < n) :
    Calls Tryz.prog 69 #[.slice a n c, .int .i64 k, .int .i64 y] w fun e w' => e = .returned (.bool (hasI (kinds zs k) y)) ∧ Ext w w' := by
  go_enter Tryz.func69, Tryz.ntmps69
  go_wp2_with (first | (go_at_call 109; refine (kindsOf_any _ _ _ _ _ _ hr ht hk).mono ?_; rintro e w1 ⟨v, rfl, a1, n1, c1, rfl, ho, hb⟩) | (go_at_call 108; refine (slContains_int64_any _ _ _ _ _ _ ho.rd).mono ?_; rintro e w' ⟨rfl, rfl⟩))
  go_ret
  exact ⟨rfl, hb⟩

end Go.Proofs.YtdacmbclkpgngaaGreatDoor

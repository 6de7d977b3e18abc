/-
  slices.SortFunc at spans, at most twelve.
-/
import Derived.Test.YteencdgaldhanaaGreatDoorIT2
import Derived.Test.YteencdgaldhanaaGreatDoorShelfB
namespace Go.Proofs.YteencdgaldhanaaGreatDoor
open Go.RowKit

def Sorted12 (B g n c : Nat) (zs : List SpanV) (w : World) (e : Ending) (w' : World) : Prop :=
  e = .returned (.tuple #[]) ∧ ∃ ys, ys.Perm zs ∧ upS ys ∧ OwnG laySp 60 w' B (some ⟨g, 0, none⟩) n c ys ∧ w.grownBy w' (some g)

set_option maxRecDepth 100000 in
set_option maxHeartbeats 2000000 in
theorem pdqSp_any (B g c : Nat) (l : Int) (zs : List SpanV) (w : World) (ho : OwnG laySp 60 w B (some ⟨g, 0, none⟩) zs.length c zs) (hn : zs.length ≤ 12) :
    Calls Tryz.prog 136 #[.slice (some ⟨g, 0, none⟩) zs.length c, .int .i64 0, .int .i64 zs.length, .int .i64 l, .func (.func 85) #[] #[]] w (Sorted12 B g zs.length c zs w) := by
  have hn2 : (zs.length : Int) ≤ 12 := by omega
  have HO := Lib.hid ho
  clear ho
  go_enter Tryz.func136, Tryz.ntmps136
  go_wp2
  go_loopw [1, 2, 3, 10, 11] (fun a b l' _ _ wr => a = .int .i64 0 ∧ b = .int .i64 zs.length ∧ l' = .int .i64 l ∧ wr = w) (fun _ _ _ _ _ _ => 0)
  case atStart => exact ⟨rfl, rfl, rfl, rfl⟩
  case round =>
    obtain ⟨rfl, rfl, rfl, rfl⟩ := hrel
    go_wp2_with fail
    refine (insSortSp_any _ _ _ _ _ HO.out).mono ?_
    rintro e w1 ⟨rfl, h1⟩
    have H1 := Lib.hid h1
    clear h1
    go_wp2
    go_end0
    exact ⟨rfl, H1.out⟩

set_option maxRecDepth 100000 in
set_option maxHeartbeats 2000000 in
theorem sortFuncSp_any (B g c : Nat) (zs : List SpanV) (w : World) (ho : OwnG laySp 60 w B (some ⟨g, 0, none⟩) zs.length c zs) (hn : zs.length ≤ 12) :
    Calls Tryz.prog 112 #[.slice (some ⟨g, 0, none⟩) zs.length c, .func (.func 85) #[] #[]] w (Sorted12 B g zs.length c zs w) := by
  have HO := Lib.hid ho
  clear ho
  go_enter Tryz.func112, Tryz.ntmps112
  go_wp2_with fail
  refine (Tryz.bits_Len _ _ (by omega) (by omega)).mono ?_
  rintro e w1 ⟨rfl, rfl⟩
  go_wp2_with fail
  refine (pdqSp_any _ _ _ _ _ _ HO.out hn).mono ?_
  rintro e w2 ⟨rfl, h2⟩
  have H2 := Lib.hid h2
  clear h2
  go_wp2
  go_end0
  exact ⟨rfl, H2.out⟩

set_option maxRecDepth 100000 in
theorem insSortNil_any (w : World) :
    Calls Tryz.prog 153 #[.slice none 0 0, .int .i64 0, .int .i64 0, .func (.func 85) #[] #[]] w fun e w' => e = .returned (.tuple #[]) ∧ w = w' := by
  go_enter Tryz.func153, Tryz.ntmps153
  go_wp2
  go_loopw [8] (fun v wr => v = .int .i64 1 ∧ wr = w) (fun _ _ => 0)
  case atStart => exact ⟨rfl, rfl⟩
  case round =>
    obtain ⟨rfl, rfl⟩ := hrel
    go_wp2
    go_end0
    exact ⟨rfl, rfl⟩
set_option maxRecDepth 100000 in
set_option maxHeartbeats 2000000 in
theorem pdqNil_any (l : Int) (w : World) :
    Calls Tryz.prog 136 #[.slice none 0 0, .int .i64 0, .int .i64 0, .int .i64 l, .func (.func 85) #[] #[]] w fun e w' => e = .returned (.tuple #[]) ∧ w = w' := by
  go_enter Tryz.func136, Tryz.ntmps136
  go_wp2
  go_loopw [1, 2, 3, 10, 11] (fun a b l' _ _ wr => a = .int .i64 0 ∧ b = .int .i64 0 ∧ l' = .int .i64 l ∧ wr = w) (fun _ _ _ _ _ _ => 0)
  case atStart => exact ⟨rfl, rfl, rfl, rfl⟩
  case round =>
    obtain ⟨rfl, rfl, rfl, rfl⟩ := hrel
    go_wp2_with fail
    refine (insSortNil_any _).mono ?_
    rintro e w1 ⟨rfl, rfl⟩
    go_wp2
    refine bodyPost_ret (results_none rfl _ _ _) rfl ?_
    exact ⟨rfl, rfl⟩
set_option maxRecDepth 100000 in
theorem sortFuncNil_any (w : World) :
    Calls Tryz.prog 112 #[.slice none 0 0, .func (.func 85) #[] #[]] w fun e w' => e = .returned (.tuple #[]) ∧ w = w' := by
  go_enter Tryz.func112, Tryz.ntmps112
  go_wp2_with fail
  refine (Tryz.bits_Len _ _ (by omega) (by omega)).mono ?_
  rintro e w1 ⟨rfl, rfl⟩
  go_wp2_with fail
  refine (pdqNil_any _ _).mono ?_
  rintro e w2 ⟨rfl, rfl⟩
  go_wp2
  go_end0
  exact ⟨rfl, rfl⟩
end Go.Proofs.YteencdgaldhanaaGreatDoor

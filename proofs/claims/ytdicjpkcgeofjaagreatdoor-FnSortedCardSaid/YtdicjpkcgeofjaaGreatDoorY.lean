/-
  Phrases: the walks of the program's and of the reference's splitting, and of both tests.
-/
import Derived.Test.YtdicjpkcgeofjaaGreatDoorM0
import Derived.Test.YtdicjpkcgeofjaaGreatDoorS
namespace Go.Proofs.YtdicjpkcgeofjaaGreatDoor
open Go.RowKit

/-- The library's own variable holds some number. -/
def MaxW (w : World) : Prop := ∃ m, w.cell? ⟨1, 0, none⟩ = some (.int .i64 m)
theorem MaxW.ext {w w' : World} (h : MaxW w) (x : Ext w w') : MaxW w' := by
  obtain ⟨m, hm⟩ := h
  exact ⟨m, (Below.cell x (World.block_lt_of_cell? w _ hm)).trans hm⟩
theorem MaxW.of_shaped {w : World} (h : w.ShapedOpen Tryz.prog) : MaxW w :=
  Go.Proofs.cell_of_shapedOpen_int (zero := #[.int .i64 0]) (t := 3) h (of_decide_eq_true (by kernel_rfl)) (by kernel_rfl) rfl (by kernel_rfl) (by kernel_rfl) Tryz.underlying3
def phraseB (s : ByteArray) : Bool := decide ((splitC 32 s).length ≤ 8) && wordsB (splitC 32 s)

theorem Own.split (s : ByteArray) (w : World) (hs : s.size ≤ 1073741824) : OwnS (w.alloc (.cells ((splitC 32 s).map Value.string).toArray 9)) w.heap.size (some ⟨w.heap.size, 0, none⟩) (splitC 32 s).length (splitC 32 s).length (splitC 32 s) := by
  have hn := splitC_num (c := 32) (s := s)
  refine ⟨OwnG.lit layS 9 w (Nat.le_refl _) _ _ ?_ (by omega), fun p hp => by have := splitC_small p hp; omega⟩
  rw [List.toList_toArray]
  induction splitC 32 s with
  | nil => rfl
  | cons x xs ih => rw [List.map_cons, List.flatMap_cons, ih]; rfl

theorem wordsOf_any (s : ByteArray) (w : World) (hs : s.size ≤ 1073741824) (hmax : MaxW w) :
    Calls Tryz.prog 60 #[.string s] w fun e w' => ∃ v, e = .returned v ∧ NewS w w' (splitC 32 s) v := by
  obtain ⟨m, hm⟩ := hmax
  go_enter Tryz.func60, Tryz.ntmps60
  go_wp2_with fail
  refine (Tryz.strings_Split s ⟨#[32]⟩ m _ (by omega) hm (by decide)).mono ?_
  rintro e w1 ⟨rfl, rfl⟩
  rw [(splitB_one 32 s).1, ← (splitB_one 32 s).2]
  go_wp2
  go_ret
  exact ⟨_, rfl, _, _, _, rfl, Own.split s w hs, (Ext.refl _).alloc _⟩

set_option maxRecDepth 100000 in
set_option maxHeartbeats 400000 in
theorem implIsPhrase_any (s : ByteArray) (w : World) (hs : s.size ≤ 1073741824) (hmax : MaxW w) :
    Calls Tryz.prog 86 #[.string s] w fun e w' => e = .returned (.bool (phraseB s)) ∧ Ext w w' := by
  have hnum := splitC_num (c := 32) (s := s)
  cases h : decide ((splitC 32 s).length ≤ 8)
  · have HH := Lib.hid h
    have hd : decide (((splitC 32 s).length : Int) ≤ 8) = false := by
      rw [← h]; exact decide_eq_decide.2 (by omega)
    clear h
    go_enter Tryz.func86, Tryz.ntmps86
    go_wp2_with fail
    refine (wordsOf_any s _ hs hmax).mono ?_
    rintro e w1 ⟨v1, rfl, a1, n1, c1, rfl, o1, x1⟩
    obtain rfl := o1.rd.len
    go_wp2
    go_ret
    exact ⟨ret_bool (by rw [phraseB, HH.out]; rfl), x1⟩
  · have HH := Lib.hid h
    have hd : decide (((splitC 32 s).length : Int) ≤ 8) = true := by
      rw [← h]; exact decide_eq_decide.2 (by omega)
    clear h
    go_enter Tryz.func86, Tryz.ntmps86
    go_wp2_with fail
    refine (wordsOf_any s _ hs hmax).mono ?_
    rintro e w1 ⟨v1, rfl, a1, n1, c1, rfl, o1, x1⟩
    obtain rfl := o1.rd.len
    go_wp2_with fail
    refine (areWords_any _ _ _ _ _ o1.rd).mono ?_
    rintro e w2 ⟨rfl, x2⟩
    go_wp2
    go_ret
    exact ⟨ret_bool (by rw [phraseB, HH.out]; rfl), x1.trans x2⟩

end Go.Proofs.YtdicjpkcgeofjaaGreatDoor

/-
  The reference's draws of spans and names.
-/
import Derived.Test.YtjelmidkkpchkaaGreatDoorDS
import Derived.Test.YtjelmidkkpchkaaGreatDoorNSpan
import Derived.Test.YtjelmidkkpchkaaGreatDoorNName
namespace Go.Proofs.YtjelmidkkpchkaaGreatDoor
open Go.RowKit

def DrewSp (m : Int) (w : World) (g : Nat) (e : Ending) (w' : World) : Prop := ∃ x : SpanV, e = .returned (valSpan x) ∧ ((-m ≤ x.from_ ∧ x.from_ ≤ m) ∧ (-m ≤ x.to_ ∧ x.to_ ≤ m)) ∧ Drew w g w'

set_option maxRecDepth 100000 in
set_option maxHeartbeats 1000000 in
theorem l02Good_any (g : Nat) (w : World) (hs : Src w g) :
    Calls Tryz.prog 191 #[.pointer (some ⟨g, 0, none⟩)] w (DrewSp 100000 w g) := by
  have hg := hs.lt
  have HS := Lib.hid hs
  clear hs
  go_enter Tryz.func191, Tryz.ntmps191
  go_wp2_with fail
  refine (l01Next_any _ _ _ (HS.out.ext ((Ext.refl _).alloc _)) (by omega)).mono ?_
  rintro e w1 ⟨x, rfl, hx0, hx1, hd⟩
  have H1 := Lib.hid (And.intro hd.drew ((Box.new _ _ _).drew hd.drew (by omega)))
  clear hd
  go_wp2_with fail
  refine (l01Next_any _ _ _ H1.out.1.1 (by omega)).mono ?_
  rintro e w2 ⟨y, rfl, hy0, hy1, hd⟩
  have H2 := Lib.hid (And.intro (H1.out.1.trans hd.drew) (H1.out.2.drew hd.drew (by omega)))
  clear hd
  go_wp2_with fail
  refine (l01Next_any _ _ _ H2.out.1.1 (by omega)).mono ?_
  rintro e w3 ⟨z, rfl, hz0, hz1, hd⟩
  have H3 := Lib.hid (And.intro (H2.out.1.trans hd.drew) (H2.out.2.drew hd.drew (by omega)))
  clear hd
  have hg3 := H3.out.1.1.lt
  go_wp2_with fail
  refine (l01Pick_any _ _ _ _ _ _ (H3.out.1.1.ext ((Ext.refl _).alloc _)) (RdI.lits _ [0, y, z, 2000] _ rfl (by simp)) (by simp) (by rintro ad e; cases e; exact Nat.ne_of_gt hg3)).mono ?_
  rintro e w4 ⟨p, rfl, hp, hd⟩
  have hp2 : 0 ≤ p ∧ p ≤ 2000 := by simp at hp; omega
  have hx2 : x ≤ 1000 := by omega
  have H4 := Lib.hid (And.intro (H3.out.1.trans (Drew.pre ((Ext.refl _).alloc _) hd.drew)) ((H3.out.2.ext ((Ext.refl _).alloc _)).drew hd.drew (by omega)))
  have b0 : _ = some (Value.int .i64 0) := H4.out.2.cell 0
  have b1 : _ = some (Value.int .i64 0) := H4.out.2.cell 1
  have f0 := H4.out.2.frozen 0
  have f1 := H4.out.2.frozen 1
  clear hp hd hx1 hy1 hz1
  go_wp2
  exact bodyPost_ret (v := .agg #[.int .i64 (1000 + x), .int .i64 (min 3000 (1000 + x + p))]) (by simp [results, Tryz.results191, go_sem, b0, b1]) rfl ⟨⟨1000 + x, min 3000 (1000 + x + p)⟩, rfl, ⟨by simp only; omega, by simp only; omega⟩, ((Drew.pre ((Ext.refl _).alloc _) H4.out.1).setCell (Nat.le_refl _) hg 0 _).setCell (Nat.le_refl _) hg 1 _⟩

set_option maxRecDepth 100000 in
set_option maxHeartbeats 1000000 in
theorem l02Draw_any (g : Nat) (w : World) (hs : Src w g) :
    Calls Tryz.prog 150 #[.pointer (some ⟨g, 0, none⟩)] w (DrewSp 1000000 w g) := by
  have hg := hs.lt
  have HS := Lib.hid hs
  clear hs
  go_enter Tryz.func150, Tryz.ntmps150
  go_wp2_with fail
  refine (l02Good_any _ _ (HS.out.ext ((Ext.refl _).alloc _))).mono ?_
  rintro e w1 ⟨⟨p0, p1⟩, rfl, ⟨hp0, hp1⟩, hd⟩
  rw [valSpan]
  simp only at hp0 hp1 ⊢
  have hlt : w.heap.size < w1.heap.size := by have := hd.size; simp at this; omega
  have hne : ¬ w.heap.size = w1.heap.size := by omega
  have H1 := Lib.hid (And.intro hd ((Box.new _ _ _).drew hd (by omega)))
  clear hd
  go_wp2_with fail
  refine (l01Next_any _ _ _ (H1.out.1.1.ext ((Ext.refl _).alloc _)) (by omega)).mono ?_
  rintro e w2 ⟨y, rfl, hy0, hy1, hd⟩
  have H2 := Lib.hid (And.intro (H1.out.1.trans (Drew.pre ((Ext.refl _).alloc _) hd.drew)) (And.intro ((H1.out.2.ext ((Ext.refl _).alloc _)).drew hd.drew (by omega)) ((Box.new _ _ _).drew hd.drew (by omega))))
  clear hd
  have hg2 := H2.out.1.1.lt
  by_cases y0 : y = 0
  · subst y0
    have b0 : _ = some (Value.int .i64 0) := H2.out.2.1.cell 0
    have b1 : _ = some (Value.int .i64 0) := H2.out.2.1.cell 1
    have c0 : _ = some (Value.int .i64 p0) := H2.out.2.2.cell 0
    have c1 : _ = some (Value.int .i64 p1) := H2.out.2.2.cell 1
    have f0 := H2.out.2.1.frozen 0
    have f1 := H2.out.2.1.frozen 1
    have d0 := H2.out.2.2.frozen 0
    have d1 := H2.out.2.2.frozen 1
    go_wp2
    exact bodyPost_ret (v := .agg #[.int .i64 (p0), .int .i64 (p0 - 1)]) (by simp [results, Tryz.results150, go_sem, b0, b1]) rfl ⟨⟨p0, p0 - 1⟩, rfl, ⟨by simp only; omega, by simp only; omega⟩, (((Drew.pre ((Ext.refl _).alloc _) H2.out.1).setCell (Nat.le_of_lt hlt) (Nat.lt_trans hg hlt) 1 _).setCell (Nat.le_refl _) hg 0 _).setCell (Nat.le_refl _) hg 1 _⟩
  by_cases y1 : y = 1
  · subst y1
    go_wp2_with fail
    refine (l01Pick_any _ _ _ _ _ _ (H2.out.1.1.ext ((Ext.refl _).alloc _)) (RdI.lits _ [-3000, -3001, 3001] _ rfl (by simp)) (by simp) (by rintro ad e; cases e; exact Nat.ne_of_gt hg2)).mono ?_
    rintro e w3 ⟨p, rfl, hp, hd⟩
    have hp2 : -3001 ≤ p ∧ p ≤ 3001 := by simp at hp; omega
    have H3 := Lib.hid (And.intro (H2.out.1.trans (Drew.pre ((Ext.refl _).alloc _) hd.drew)) (And.intro ((H2.out.2.1.ext ((Ext.refl _).alloc _)).drew hd.drew (by omega)) ((H2.out.2.2.ext ((Ext.refl _).alloc _)).drew hd.drew (by omega))))
    clear hp hd
    have b0 : _ = some (Value.int .i64 0) := H3.out.2.1.cell 0
    have b1 : _ = some (Value.int .i64 0) := H3.out.2.1.cell 1
    have c0 : _ = some (Value.int .i64 p0) := H3.out.2.2.cell 0
    have c1 : _ = some (Value.int .i64 p1) := H3.out.2.2.cell 1
    have f0 := H3.out.2.1.frozen 0
    have f1 := H3.out.2.1.frozen 1
    have d0 := H3.out.2.2.frozen 0
    have d1 := H3.out.2.2.frozen 1
    go_wp2
    exact bodyPost_ret (v := .agg #[.int .i64 (p), .int .i64 (p1)]) (by simp [results, Tryz.results150, go_sem, b0, b1]) rfl ⟨⟨p, p1⟩, rfl, ⟨by simp only; omega, by simp only; omega⟩, (((Drew.pre ((Ext.refl _).alloc _) H3.out.1).setCell (Nat.le_of_lt hlt) (Nat.lt_trans hg hlt) 0 _).setCell (Nat.le_refl _) hg 0 _).setCell (Nat.le_refl _) hg 1 _⟩
  by_cases y2 : y = 2
  · subst y2
    go_wp2_with fail
    refine (l01Pick_any _ _ _ _ _ _ (H2.out.1.1.ext ((Ext.refl _).alloc _)) (RdI.lits _ [3000, 3001] _ rfl (by simp)) (by simp) (by rintro ad e; cases e; exact Nat.ne_of_gt hg2)).mono ?_
    rintro e w3 ⟨p, rfl, hp, hd⟩
    have hp2 : 3000 ≤ p ∧ p ≤ 3001 := by simp at hp; omega
    have H3 := Lib.hid (And.intro (H2.out.1.trans (Drew.pre ((Ext.refl _).alloc _) hd.drew)) (And.intro ((H2.out.2.1.ext ((Ext.refl _).alloc _)).drew hd.drew (by omega)) ((H2.out.2.2.ext ((Ext.refl _).alloc _)).drew hd.drew (by omega))))
    clear hp hd
    have b0 : _ = some (Value.int .i64 0) := H3.out.2.1.cell 0
    have b1 : _ = some (Value.int .i64 0) := H3.out.2.1.cell 1
    have c0 : _ = some (Value.int .i64 p0) := H3.out.2.2.cell 0
    have c1 : _ = some (Value.int .i64 p1) := H3.out.2.2.cell 1
    have f0 := H3.out.2.1.frozen 0
    have f1 := H3.out.2.1.frozen 1
    have d0 := H3.out.2.2.frozen 0
    have d1 := H3.out.2.2.frozen 1
    go_wp2
    exact bodyPost_ret (v := .agg #[.int .i64 (p0), .int .i64 (p)]) (by simp [results, Tryz.results150, go_sem, b0, b1]) rfl ⟨⟨p0, p⟩, rfl, ⟨by simp only; omega, by simp only; omega⟩, (((Drew.pre ((Ext.refl _).alloc _) H3.out.1).setCell (Nat.le_of_lt hlt) (Nat.lt_trans hg hlt) 1 _).setCell (Nat.le_refl _) hg 0 _).setCell (Nat.le_refl _) hg 1 _⟩
  · skip
    have b0 : _ = some (Value.int .i64 0) := H2.out.2.1.cell 0
    have b1 : _ = some (Value.int .i64 0) := H2.out.2.1.cell 1
    have c0 : _ = some (Value.int .i64 p0) := H2.out.2.2.cell 0
    have c1 : _ = some (Value.int .i64 p1) := H2.out.2.2.cell 1
    have f0 := H2.out.2.1.frozen 0
    have f1 := H2.out.2.1.frozen 1
    have d0 := H2.out.2.2.frozen 0
    have d1 := H2.out.2.2.frozen 1
    go_wp2
    exact bodyPost_ret (v := .agg #[.int .i64 (p0), .int .i64 (p1)]) (by simp [results, Tryz.results150, go_sem, b0, b1]) rfl ⟨⟨p0, p1⟩, rfl, ⟨by simp only; omega, by simp only; omega⟩, ((Drew.pre ((Ext.refl _).alloc _) H2.out.1).setCell (Nat.le_refl _) hg 0 _).setCell (Nat.le_refl _) hg 1 _⟩

end Go.Proofs.YtjelmidkkpchkaaGreatDoor

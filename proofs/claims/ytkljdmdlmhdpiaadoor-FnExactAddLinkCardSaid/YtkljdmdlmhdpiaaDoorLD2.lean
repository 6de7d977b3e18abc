/-
  AddLink of the program.
-/
import Derived.Test.YtkljdmdlmhdpiaaDoorLD
namespace Go.Proofs.YtkljdmdlmhdpiaaDoor
open Go.RowKit
attribute [local go_sem ↓] Go.wp_at_zero Go.wp_at_succ

set_option maxRecDepth 100000 in
set_option maxHeartbeats 1000000 in
theorem cloneLink_any (a : Option Addr) (n c : Nat) (xs : List LinkV) (w : World) (hr : RdLink w a n xs) :
    Calls Tryd.prog 24 #[.slice a n c] w fun e w' => ∃ v, e = .returned v ∧ NewLink w w' xs v := by
  have hm := hr.le
  have hq := fun (w : World) (a : Option Addr) (n c : Nat) => Lib.run_eql_slice_nil (P := Tryd.prog) w 29 35 a n c 0 0 Tryd.underlying29
  cases a with
  | none =>
    go_enter Tryd.func24, Tryd.ntmps24
    go_wp2
    go_ret
    obtain ⟨_, rfl⟩ := hr.1.isNone
    exact ⟨_, rfl, none, 0, 0, rfl, ⟨OwnG.isNil _ _ _ _, by simp⟩, Ext.refl _⟩
  | some ad =>
    go_enter Tryd.func24, Tryd.ntmps24
    go_wp2_with (first | (at_builtin; refine wpList_appG layLink rfl _ _ 29 35 rfl Tryd.underlying29 (.agg #[.string ⟨#[]⟩, .string ⟨#[]⟩, .int .i64 0, .int .i64 0]) 48 Tryd.info_Link rfl (by decide) w.heap.size _ 0 _ [] rfl (OwnG.lit layLink 35 w (Nat.le_refl _) [] #[] rfl (by simp)) _ n c xs rfl (hr.1.ext ((Ext.refl _).alloc _)) (by omega) (by simp) ?_; intro a' c' w1 hown hgrow; simp only [Nat.zero_add, List.nil_append] at hown ⊢))
    go_ret
    exact ⟨_, rfl, _, _, _, rfl, ⟨hown, hr.2⟩, ((Ext.refl _).alloc _).wrote hgrow (Nat.le_refl _)⟩

set_option maxRecDepth 100000 in
set_option maxHeartbeats 2000000 in
theorem implAddLink_any (a : Option Addr) (n c : Nat) (xs : List LinkV) (x : LinkV) (w : World) (hr : RdLink w a n xs) (hcap : n ≤ c) (hx : okLink x) (hn : n ≤ 1048576) :
    Calls Tryd.prog 10 #[.slice a n c, valLink x] w (RetLinkC w (addV xs x) (addC xs x)) := by
  obtain ⟨x0, x1, x2, x3⟩ := x
  have xb := (Ext.refl w).alloc (.cells #[.string x0, .string x1, .int .i64 x2, .int .i64 x3] 35)
  cases hL : linksB xs
  · have HZ := Lib.hid (And.intro hL (add_bad (z := ⟨x0, x1, x2, x3⟩) (.inl hL)))
    clear hL
    simp only [valLink]
    go_enter Tryd.func10, Tryd.ntmps10
    go_wp2_with fail
    refine (implAreLinks_any _ _ _ _ _ (hr.ext xb) hcap (by omega)).mono ?_
    rintro e w1 ⟨rfl, e1⟩
    rw [HZ.out.1]
    go_wp2
    go_ret2
    rw [HZ.out.2.1, HZ.out.2.2]
    exact RetLinkC.nil (xb.trans e1)
  cases hz : linkB ⟨x0, x1, x2, x3⟩
  · have HZ := Lib.hid (And.intro (And.intro hL hz) (add_bad (xs := xs) (.inr hz)))
    clear hL hz
    simp only [valLink]
    go_enter Tryd.func10, Tryd.ntmps10
    go_wp2_with fail
    refine (implAreLinks_any _ _ _ _ _ (hr.ext xb) hcap (by omega)).mono ?_
    rintro e w1 ⟨rfl, e1⟩
    rw [HZ.out.1.1]
    have b0 : _ = some (Value.string x0) := box_keptG e1 0
    have b1 : _ = some (Value.string x1) := box_keptG e1 1
    have b2 : _ = some (Value.int .i64 x2) := box_keptG e1 2
    have b3 : _ = some (Value.int .i64 x3) := box_keptG e1 3
    go_wp2_with fail
    refine (isLink_any ⟨x0, x1, x2, x3⟩ _ hx).mono ?_
    rintro e w2 ⟨rfl, e2⟩
    rw [HZ.out.1.2]
    go_wp2
    go_ret2
    rw [HZ.out.2.1, HZ.out.2.2]
    exact RetLinkC.nil ((xb.trans e1).trans e2)
  · have HZ := Lib.hid (And.intro hL hz)
    clear hL hz
    simp only [valLink]
    go_enter Tryd.func10, Tryd.ntmps10
    go_wp2_with fail
    refine (implAreLinks_any _ _ _ _ _ (hr.ext xb) hcap (by omega)).mono ?_
    rintro e w1 ⟨rfl, e1⟩
    rw [HZ.out.1]
    have b0 : _ = some (Value.string x0) := box_keptG e1 0
    have b1 : _ = some (Value.string x1) := box_keptG e1 1
    have b2 : _ = some (Value.int .i64 x2) := box_keptG e1 2
    have b3 : _ = some (Value.int .i64 x3) := box_keptG e1 3
    go_wp2_with fail
    refine (isLink_any ⟨x0, x1, x2, x3⟩ _ hx).mono ?_
    rintro e w2 ⟨rfl, e2⟩
    rw [HZ.out.2]
    have d0 : _ = some (Value.string x0) := box_keptG (e1.trans e2) 0
    have d1 : _ = some (Value.string x1) := box_keptG (e1.trans e2) 1
    have d2 : _ = some (Value.int .i64 x2) := box_keptG (e1.trans e2) 2
    have d3 : _ = some (Value.int .i64 x3) := box_keptG (e1.trans e2) 3
    have hrw := hr.ext ((xb.trans e1).trans e2)
    have hbw : w.heap.size < w2.heap.size := by have := (e1.trans e2).size; simp at this; omega
    go_wp2
    go_region_law (first | (refine step_appG layLink rfl _ _ 29 35 rfl Tryd.underlying29 (.agg #[.string ⟨#[]⟩, .string ⟨#[]⟩, .int .i64 0, .int .i64 0]) 48 Tryd.info_Link rfl (by decide) w2.heap.size _ n _ xs rfl (hown.ext ((Ext.refl _).alloc _)) _ 1 1 [⟨x0, x1, x2, x3⟩] rfl (RdG.new1 layLink _ _ _ rfl _) (by omega) (by have := hg.size; simp only [World.size_alloc]; omega) ?_; intro a4 c4 w4 hown4 hgrow4; have hg4 := (hg.alloc (.cells #[.string x0, .string x1, .int .i64 x2, .int .i64 x3] 35)).grown hgrow4 (fun k e => (hown.1.lt k e).1)) | (refine step_appG layLink rfl _ _ 29 35 rfl Tryd.underlying29 (.agg #[.string ⟨#[]⟩, .string ⟨#[]⟩, .int .i64 0, .int .i64 0]) 48 Tryd.info_Link rfl (by decide) w2.heap.size _ n _ xs rfl hown _ 1 1 [⟨x0, x1, x2, x3⟩] rfl hlit (by omega) hg.size ?_; intro a4 c4 w4 hown4 hgrow4; have hg4 := hg.grown hgrow4 (fun k e => (hown.1.lt k e).1)) | (go_simp; go_at_call 24; refine (cloneLink_any _ _ _ _ _ (hrw.ext (Ext.refl _).drew)).mono ?_; rintro e w3 ⟨v3, rfl, a3, n3, c3, rfl, o3, hx3⟩; obtain rfl : n = n3 := hrw.len.symm.trans o3.rd.len; have hg := ((Ext.refl w2).drew).trans hx3; have z0 := (Below.cell hg (p := ⟨w.heap.size, 0, none⟩) hbw).trans d0; have z1 := (Below.cell hg (p := ⟨w.heap.size, 1, none⟩) hbw).trans d1; have z2 := (Below.cell hg (p := ⟨w.heap.size, 2, none⟩) hbw).trans d2; have z3 := (Below.cell hg (p := ⟨w.heap.size, 3, none⟩) hbw).trans d3; have hown := (o3.mono (B' := w2.heap.size) (by first | exact Nat.le_refl _ | simp)).1) | (go_simp; go_at_call 24; refine (cloneLink_any _ _ _ _ _ ((hrw.ext ((Ext.refl _).alloc _)).ext (Ext.refl _).drew)).mono ?_; rintro e w3 ⟨v3, rfl, a3, n3, c3, rfl, o3, hx3⟩; obtain rfl : n = n3 := hrw.len.symm.trans o3.rd.len; have hg := (((Ext.refl w2).alloc (.cells #[.string x0, .string x1, .int .i64 x2, .int .i64 x3] 35)).drew).trans hx3; have z0 := (Below.cell hg (p := ⟨w.heap.size, 0, none⟩) hbw).trans d0; have z1 := (Below.cell hg (p := ⟨w.heap.size, 1, none⟩) hbw).trans d1; have z2 := (Below.cell hg (p := ⟨w.heap.size, 2, none⟩) hbw).trans d2; have z3 := (Below.cell hg (p := ⟨w.heap.size, 3, none⟩) hbw).trans d3; have hown := (o3.mono (B' := w2.heap.size) (by first | exact Nat.le_refl _ | simp)).1; have hlit := (RdG.new1 layLink w2 ⟨x0, x1, x2, x3⟩ #[.string x0, .string x1, .int .i64 x2, .int .i64 x3] rfl 35).ext ((Ext.refl _).drew.trans hx3)) | (go_simp; go_at_call 24; refine (cloneLink_any _ _ _ _ _ hrw).mono ?_; rintro e w3 ⟨v3, rfl, a3, n3, c3, rfl, o3, hx3⟩; obtain rfl : n = n3 := hrw.len.symm.trans o3.rd.len; have hg := (Ext.refl w2).trans hx3; have z0 := (Below.cell hg (p := ⟨w.heap.size, 0, none⟩) hbw).trans d0; have z1 := (Below.cell hg (p := ⟨w.heap.size, 1, none⟩) hbw).trans d1; have z2 := (Below.cell hg (p := ⟨w.heap.size, 2, none⟩) hbw).trans d2; have z3 := (Below.cell hg (p := ⟨w.heap.size, 3, none⟩) hbw).trans d3; have hown := (o3.mono (B' := w2.heap.size) (by first | exact Nat.le_refl _ | simp)).1))
    all_goals
      have HO := Lib.hid (And.intro hown4 hg4)
      clear hown4 hg4
      have hok : ∀ y ∈ xs ++ [⟨x0, x1, x2, x3⟩], okLink y := fun y hy => by
        rcases List.mem_append.1 hy with hy | hy
        · exact hr.2 y hy
        · obtain rfl := List.mem_singleton.1 hy; exact hx
      have hro : RdLink w4 a4 (n + 1) (xs ++ [⟨x0, x1, x2, x3⟩]) := ⟨HO.out.1.rd, hok⟩
      go_wp2_with fail
      refine (implAreLinks_any _ _ _ _ _ hro (OwnLink.cap (⟨HO.out.1, hok⟩ : OwnLink w4 w2.heap.size a4 (n + 1) c4 _)) (by omega)).mono ?_
      rintro e w5 ⟨rfl, e5⟩
      have hxx := (((xb.trans e1).trans e2).trans HO.out.2).trans e5
      cases hL2 : linksB (xs ++ [⟨x0, x1, x2, x3⟩])
      · have HR := Lib.hid (add_no HZ.out.1 HZ.out.2 hL2)
        have HX := Lib.hid hxx
        clear hL2 hxx
        go_wp2
        go_ret2
        rw [HR.out.1, HR.out.2]
        exact RetLinkC.nil HX.out
      · have hlen := (linksB_at hL2).2.1
        have hn20 : n + 1 ≤ 1048576 := by rw [hro.len] at hlen; omega
        have HR := Lib.hid (And.intro (add_yes HZ.out.1 HZ.out.2 hL2) hn20)
        have HX := Lib.hid hxx
        clear hL2 hxx hlen hn20
        go_wp2
        go_ret2
        rw [HR.out.1.1, HR.out.1.2]
        exact ⟨_, rfl, _, _, _, rfl, HR.out.2, (show OwnLink w4 w2.heap.size a4 (n + 1) c4 _ from ⟨HO.out.1, hok⟩).ext e5 |>.mono (by have := ((xb.trans e1).trans e2).size; simpa using this), HX.out⟩

end Go.Proofs.YtkljdmdlmhdpiaaDoor

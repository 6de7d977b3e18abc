/-
  AddLink on both sides.
-/
import Derived.Test.YtkljdmdlmhdpiaaDoorLE
import Derived.Test.YtkljdmdlmhdpiaaDoorR
namespace Go.Proofs.YtkljdmdlmhdpiaaDoor
open Go.RowKit
attribute [local go_sem ↓] Go.wp_at_zero Go.wp_at_succ

def addB (xs : List LinkV) (z : LinkV) : Bool := linksB xs && linkB z
def addV (xs : List LinkV) (z : LinkV) : List LinkV := if addB xs z = true ∧ linksB (xs ++ [z]) = true then xs ++ [z] else []
def addC (xs : List LinkV) (z : LinkV) : Int := if addB xs z = true then (if linksB (xs ++ [z]) = true then 0 else 5) else 1
theorem add_bad {xs : List LinkV} {z : LinkV} (h : linksB xs = false ∨ linkB z = false) : addV xs z = [] ∧ addC xs z = 1 := by
  have : addB xs z = false := by rw [addB]; rcases h with h | h <;> simp [h]
  rw [addV, addC, this]
  exact ⟨if_neg (fun h => by cases h.1), if_neg (by decide)⟩
theorem add_no {xs : List LinkV} {z : LinkV} (h : linksB xs = true) (h1 : linkB z = true) (h2 : linksB (xs ++ [z]) = false) : addV xs z = [] ∧ addC xs z = 5 := by
  have : addB xs z = true := by rw [addB, h, h1]; rfl
  rw [addV, addC, this, h2]
  exact ⟨if_neg (fun h => by cases h.2), rfl⟩
theorem add_yes {xs : List LinkV} {z : LinkV} (h : linksB xs = true) (h1 : linkB z = true) (h2 : linksB (xs ++ [z]) = true) : addV xs z = xs ++ [z] ∧ addC xs z = 0 := by
  have : addB xs z = true := by rw [addB, h, h1]; rfl
  rw [addV, addC, this, h2]
  exact ⟨if_pos ⟨rfl, rfl⟩, rfl⟩

set_option maxRecDepth 100000 in
set_option maxHeartbeats 2000000 in
theorem specAddLink_any (a : Option Addr) (n c : Nat) (xs : List LinkV) (x : LinkV) (w : World) (hr : RdLink w a n xs) (hx : okLink x) (hn : n ≤ 1048576) :
    Calls Tryd.prog 7 #[.slice a n c, valLink x] w (RetLinkC w (addV xs x) (addC xs x)) := by
  obtain ⟨x0, x1, x2, x3⟩ := x
  have xb := (Ext.refl w).alloc (.cells #[.string x0, .string x1, .int .i64 x2, .int .i64 x3] 35)
  cases hL : linksB xs
  · have HZ := Lib.hid (And.intro hL (add_bad (z := ⟨x0, x1, x2, x3⟩) (.inl hL)))
    clear hL
    simp only [valLink]
    go_enter Tryd.func7, Tryd.ntmps7
    go_wp2_with fail
    refine (specAreLinks_any _ _ _ _ _ (hr.ext xb) (by omega)).mono ?_
    rintro e w1 ⟨rfl, e1⟩
    rw [HZ.out.1]
    go_wp2
    go_ret2
    rw [HZ.out.2.1, HZ.out.2.2]
    exact RetLinkC.nil (xb.trans e1)
  cases hz : linkB ⟨x0, x1, x2, x3⟩
  · have HZ := Lib.hid (And.intro (And.intro hL hz) (add_bad (xs := xs) (.inr hz)))
    clear hL hz
    simp only [valLink]
    go_enter Tryd.func7, Tryd.ntmps7
    go_wp2_with fail
    refine (specAreLinks_any _ _ _ _ _ (hr.ext xb) (by omega)).mono ?_
    rintro e w1 ⟨rfl, e1⟩
    rw [HZ.out.1.1]
    have b0 : _ = some (Value.string x0) := box_keptG e1 0
    have b1 : _ = some (Value.string x1) := box_keptG e1 1
    have b2 : _ = some (Value.int .i64 x2) := box_keptG e1 2
    have b3 : _ = some (Value.int .i64 x3) := box_keptG e1 3
    go_wp2_with fail
    refine (l12Is_any ⟨x0, x1, x2, x3⟩ _ hx).mono ?_
    rintro e w2 ⟨rfl, e2⟩
    rw [HZ.out.1.2]
    go_wp2
    go_ret2
    rw [HZ.out.2.1, HZ.out.2.2]
    exact RetLinkC.nil ((xb.trans e1).trans e2)
  · have HZ := Lib.hid (And.intro hL hz)
    clear hL hz
    simp only [valLink]
    go_enter Tryd.func7, Tryd.ntmps7
    go_wp2_with fail
    refine (specAreLinks_any _ _ _ _ _ (hr.ext xb) (by omega)).mono ?_
    rintro e w1 ⟨rfl, e1⟩
    rw [HZ.out.1]
    have b0 : _ = some (Value.string x0) := box_keptG e1 0
    have b1 : _ = some (Value.string x1) := box_keptG e1 1
    have b2 : _ = some (Value.int .i64 x2) := box_keptG e1 2
    have b3 : _ = some (Value.int .i64 x3) := box_keptG e1 3
    go_wp2_with fail
    refine (l12Is_any ⟨x0, x1, x2, x3⟩ _ hx).mono ?_
    rintro e w2 ⟨rfl, e2⟩
    rw [HZ.out.2]
    have d0 : _ = some (Value.string x0) := box_keptG (e1.trans e2) 0
    have d1 : _ = some (Value.string x1) := box_keptG (e1.trans e2) 1
    have d2 : _ = some (Value.int .i64 x2) := box_keptG (e1.trans e2) 2
    have d3 : _ = some (Value.int .i64 x3) := box_keptG (e1.trans e2) 3
    have hrw := hr.ext ((xb.trans e1).trans e2)
    have hbw : w.heap.size < w2.heap.size := by have := (e1.trans e2).size; simp at this; omega
    go_wp2
    go_region_law (first | (refine step_appG layLink rfl _ _ 29 35 rfl Tryd.underlying29 (.agg #[.string ⟨#[]⟩, .string ⟨#[]⟩, .int .i64 0, .int .i64 0]) 48 Tryd.info_Link rfl (by decide) w2.heap.size _ n _ xs rfl (hown.ext ((Ext.refl _).alloc _)) _ 1 1 [⟨x0, x1, x2, x3⟩] rfl (RdG.new1 layLink _ _ _ rfl _) (by omega) (by have := hg.size; simp only [World.size_alloc]; omega) ?_; intro a4 c4 w4 hown4 hgrow4; have hg4 := (hg.alloc (.cells #[.string x0, .string x1, .int .i64 x2, .int .i64 x3] 35)).grown hgrow4 (fun k e => (hown.1.lt k e).1)) | (refine step_appG layLink rfl _ _ 29 35 rfl Tryd.underlying29 (.agg #[.string ⟨#[]⟩, .string ⟨#[]⟩, .int .i64 0, .int .i64 0]) 48 Tryd.info_Link rfl (by decide) w2.heap.size _ n _ xs rfl hown _ 1 1 [⟨x0, x1, x2, x3⟩] rfl hlit (by omega) hg.size ?_; intro a4 c4 w4 hown4 hgrow4; have hg4 := hg.grown hgrow4 (fun k e => (hown.1.lt k e).1)) | (have ho0 := (OwnG.lit layLink 35 w2 (Nat.le_refl w2.heap.size) [] #[] rfl (by simp)).ext (Ext.refl _).drew; refine step_appG layLink rfl _ _ 29 35 rfl Tryd.underlying29 (.agg #[.string ⟨#[]⟩, .string ⟨#[]⟩, .int .i64 0, .int .i64 0]) 48 Tryd.info_Link rfl (by decide) w2.heap.size _ 0 _ [] rfl ho0 _ n c xs rfl (hrw.1.ext (((Ext.refl _).alloc _).drew)) (by omega) (by first | omega | (simp only [World.size_alloc, World.size_drew]; omega)) ?_; intro a3 c3 w3 hown hgrow; simp only [Nat.zero_add, List.nil_append] at hown; have hg := (((Ext.refl w2).alloc (.cells #[] 35)).drew).grown hgrow (fun k e => (ho0.1.lt k e).1); have z0 := (Below.cell hg (p := ⟨w.heap.size, 0, none⟩) hbw).trans d0; have z1 := (Below.cell hg (p := ⟨w.heap.size, 1, none⟩) hbw).trans d1; have z2 := (Below.cell hg (p := ⟨w.heap.size, 2, none⟩) hbw).trans d2; have z3 := (Below.cell hg (p := ⟨w.heap.size, 3, none⟩) hbw).trans d3) | (have ho0 := ((OwnG.lit layLink 35 w2 (Nat.le_refl w2.heap.size) [] #[] rfl (by simp)).ext ((Ext.refl _).alloc (.cells #[.string x0, .string x1, .int .i64 x2, .int .i64 x3] 35))).ext (Ext.refl _).drew; have hl0 := RdG.new1 layLink (w2.alloc (.cells #[] 35)) ⟨x0, x1, x2, x3⟩ #[.string x0, .string x1, .int .i64 x2, .int .i64 x3] rfl 35; rw [World.size_alloc] at hl0; refine step_appG layLink rfl _ _ 29 35 rfl Tryd.underlying29 (.agg #[.string ⟨#[]⟩, .string ⟨#[]⟩, .int .i64 0, .int .i64 0]) 48 Tryd.info_Link rfl (by decide) w2.heap.size _ 0 _ [] rfl ho0 _ n c xs rfl (hrw.1.ext ((((Ext.refl _).alloc _).alloc _).drew)) (by omega) (by first | omega | (simp only [World.size_alloc, World.size_drew]; omega)) ?_; intro a3 c3 w3 hown hgrow; simp only [Nat.zero_add, List.nil_append] at hown; have hg := ((((Ext.refl w2).alloc (.cells #[] 35)).alloc (.cells #[.string x0, .string x1, .int .i64 x2, .int .i64 x3] 35)).drew).grown hgrow (fun k e => (ho0.1.lt k e).1); have z0 := (Below.cell hg (p := ⟨w.heap.size, 0, none⟩) hbw).trans d0; have z1 := (Below.cell hg (p := ⟨w.heap.size, 1, none⟩) hbw).trans d1; have z2 := (Below.cell hg (p := ⟨w.heap.size, 2, none⟩) hbw).trans d2; have z3 := (Below.cell hg (p := ⟨w.heap.size, 3, none⟩) hbw).trans d3; have hlit := RdG.grown (hl0.ext (Ext.refl _).drew) hgrow (by simp [Value.ownBlock])) | (have ho1 := OwnG.lit layLink 35 (w2.alloc (.cells #[.string x0, .string x1, .int .i64 x2, .int .i64 x3] 35)) (show w2.heap.size ≤ _ by rw [World.size_alloc]; omega) [] #[] rfl (by simp); rw [World.size_alloc] at ho1; have ho0 := ho1.ext (Ext.refl _).drew; have hl0 := RdG.new1 layLink w2 ⟨x0, x1, x2, x3⟩ #[.string x0, .string x1, .int .i64 x2, .int .i64 x3] rfl 35; refine step_appG layLink rfl _ _ 29 35 rfl Tryd.underlying29 (.agg #[.string ⟨#[]⟩, .string ⟨#[]⟩, .int .i64 0, .int .i64 0]) 48 Tryd.info_Link rfl (by decide) w2.heap.size _ 0 _ [] rfl ho0 _ n c xs rfl (hrw.1.ext ((((Ext.refl _).alloc _).alloc _).drew)) (by omega) (by first | omega | (simp only [World.size_alloc, World.size_drew]; omega)) ?_; intro a3 c3 w3 hown hgrow; simp only [Nat.zero_add, List.nil_append] at hown; have hg := ((((Ext.refl w2).alloc (.cells #[.string x0, .string x1, .int .i64 x2, .int .i64 x3] 35)).alloc (.cells #[] 35)).drew).grown hgrow (fun k e => (ho0.1.lt k e).1); have z0 := (Below.cell hg (p := ⟨w.heap.size, 0, none⟩) hbw).trans d0; have z1 := (Below.cell hg (p := ⟨w.heap.size, 1, none⟩) hbw).trans d1; have z2 := (Below.cell hg (p := ⟨w.heap.size, 2, none⟩) hbw).trans d2; have z3 := (Below.cell hg (p := ⟨w.heap.size, 3, none⟩) hbw).trans d3; have hlit := RdG.grown ((hl0.ext ((Ext.refl _).alloc (.cells #[] 35))).ext (Ext.refl _).drew) hgrow (by simp [Value.ownBlock])))
    all_goals
      have HO := Lib.hid (And.intro hown4 hg4)
      clear hown4 hg4
      have hok : ∀ y ∈ xs ++ [⟨x0, x1, x2, x3⟩], okLink y := fun y hy => by
        rcases List.mem_append.1 hy with hy | hy
        · exact hr.2 y hy
        · obtain rfl := List.mem_singleton.1 hy; exact hx
      have hro : RdLink w4 a4 (n + 1) (xs ++ [⟨x0, x1, x2, x3⟩]) := ⟨HO.out.1.rd, hok⟩
      go_wp2_with fail
      refine (specAreLinks_any _ _ _ _ _ hro (by omega)).mono ?_
      rintro e w5 ⟨rfl, e5⟩
      have hxx := (((xb.trans e1).trans e2).trans HO.out.2).trans e5
      cases hL2 : linksB (xs ++ [⟨x0, x1, x2, x3⟩])
      · have HR := Lib.hid (add_no HZ.out.1 HZ.out.2 hL2)
        have HX := Lib.hid hxx
        clear hL2 hxx
        go_wp2
        go_ret2
        rw [HR.out.1, HR.out.2]
        exact RetLinkC.nil HX.out
      · have hlen := (linksB_at hL2).2.1
        have hn20 : n + 1 ≤ 1048576 := by rw [hro.len] at hlen; omega
        have HR := Lib.hid (And.intro (add_yes HZ.out.1 HZ.out.2 hL2) hn20)
        have HX := Lib.hid hxx
        clear hL2 hxx hlen hn20
        go_wp2
        go_ret2
        rw [HR.out.1.1, HR.out.1.2]
        exact ⟨_, rfl, _, _, _, rfl, HR.out.2, (show OwnLink w4 w2.heap.size a4 (n + 1) c4 _ from ⟨HO.out.1, hok⟩).ext e5 |>.mono (by have := ((xb.trans e1).trans e2).size; simpa using this), HX.out⟩

end Go.Proofs.YtkljdmdlmhdpiaaDoor

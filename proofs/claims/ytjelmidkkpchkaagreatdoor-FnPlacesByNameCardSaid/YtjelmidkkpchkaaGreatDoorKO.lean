/-
  PlacesOfKind on both sides.
-/
import Derived.Test.YtjelmidkkpchkaaGreatDoorPI
import Derived.Test.YtjelmidkkpchkaaGreatDoorM2
import Derived.Test.YtjelmidkkpchkaaGreatDoorM0
import Derived.Deep.RegionHeld3
namespace Go.Proofs.YtjelmidkkpchkaaGreatDoor
open Go.RowKit
attribute [local go_sem ↓] Go.wp_at_zero Go.wp_at_succ

def HoldsSl (w : World) (b : Nat) (a : Option Addr) (n c : Nat) : Prop := b < w.heap.size ∧ w.cell? ⟨b, 0, none⟩ = some (.slice a n c)
theorem HoldsSl.ext {w w' : World} {b n c : Nat} {a : Option Addr} (h : HoldsSl w b a n c) (x : Ext w w') : HoldsSl w' b a n c := ⟨Nat.lt_of_lt_of_le h.1 x.size, (Below.cell x (p := ⟨b, 0, none⟩) h.1).trans h.2⟩
/-- Does a place exist in a year and is it of a kind? -/
def ofKind (zs : List Int) (y cl : Int) (x : PlaceV) : Bool := inP y x && (decide (x.klass < zs.length) && hasI (kinds zs x.klass) cl)
def okC (xs : List PlaceV) (zs : List Int) (cl y : Int) : Int := if codeP xs (treeB zs) y = 0 then (if inB cl 0 ((zs.length : Int) - 1) = true then 0 else 2) else codeP xs (treeB zs) y
def okL (xs : List PlaceV) (zs : List Int) (cl y : Int) : List ByteArray := if okC xs zs cl y = 0 then pickL (ofKind zs y cl) PlaceV.code xs xs.length else []
theorem ok_code {xs : List PlaceV} {zs : List Int} {cl y : Int} (h : codeP xs (treeB zs) y ≠ 0) : okC xs zs cl y = codeP xs (treeB zs) y ∧ okL xs zs cl y = [] := by
  have h1 : okC xs zs cl y = codeP xs (treeB zs) y := if_neg h
  exact ⟨h1, if_neg (by rw [h1]; exact h)⟩
theorem ok_range {xs : List PlaceV} {zs : List Int} {cl y : Int} (h : codeP xs (treeB zs) y = 0) (h2 : inB cl 0 ((zs.length : Int) - 1) = false) : okC xs zs cl y = 2 ∧ okL xs zs cl y = [] := by
  have h1 : okC xs zs cl y = 2 := by rw [okC, if_pos h, h2]; rfl
  exact ⟨h1, if_neg (by rw [h1]; decide)⟩
theorem ok_yes {xs : List PlaceV} {zs : List Int} {cl y : Int} (h : codeP xs (treeB zs) y = 0) (h2 : inB cl 0 ((zs.length : Int) - 1) = true) : okC xs zs cl y = 0 ∧ okL xs zs cl y = pickL (ofKind zs y cl) PlaceV.code xs xs.length := by
  have h1 : okC xs zs cl y = 0 := by rw [okC, if_pos h, if_pos h2]
  exact ⟨h1, if_pos h1⟩
theorem regB_klass {xs : List PlaceV} (h : regB xs = true) {k : Nat} (hk : k < xs.length) : 0 ≤ (nthPlace xs k).klass := by
  have h1 := (regB_at h).1 k hk
  rw [regAt, Bool.and_eq_true] at h1
  have h3 := h1.1
  rw [placeB, Bool.and_eq_true, Bool.and_eq_true] at h3
  have h2 := h3.2.1
  rw [inB_iff] at h2
  exact h2.1

set_option maxRecDepth 100000 in
set_option maxHeartbeats 400000 in
theorem kindClosure_any (x : PlaceV) (r : Ref) (a2 : Option Addr) (m c2 : Nat) (zs : List Int) (y cl : Int) (b b2 b3 : Nat) (w : World) (h0 : 0 ≤ x.klass) (ht : Tree zs) (hr : RdI w a2 m zs) (h1 : HoldsInt w b y) (h2 : HoldsSl w b2 a2 m c2) (h3 : HoldsInt w b3 cl) :
    Calls Tryz.prog 51 #[valPlace x r, .pointer (some ⟨b, 0, none⟩), .pointer (some ⟨b2, 0, none⟩), .pointer (some ⟨b3, 0, none⟩)] w fun e w' => e = .returned (.bool (ofKind zs y cl x)) ∧ Ext w w' := by
  have hln := hr.len
  have hm := hr.le
  obtain ⟨v0, v1, v2, v3, v4⟩ := x
  obtain ⟨ra, rn, rc⟩ := r
  simp only [valPlace] at h0 ⊢
  have xb := (Ext.refl w).alloc (.cells #[.string v0, .int .i64 v1, .int .i64 v2, .int .i64 v3, .slice ra rn rc] 67)
  have G1 := Lib.hid (h1.ext xb)
  have G2 := Lib.hid (h2.ext xb)
  have G3 := Lib.hid (h3.ext xb)
  clear h1 h2 h3
  have c1 : _ = some (Value.int .i64 v1) := box_keptG (Ext.refl (w.alloc (.cells #[.string v0, .int .i64 v1, .int .i64 v2, .int .i64 v3, .slice ra rn rc] 67))) 1
  have c2 : _ = some (Value.int .i64 v2) := box_keptG (Ext.refl (w.alloc (.cells #[.string v0, .int .i64 v1, .int .i64 v2, .int .i64 v3, .slice ra rn rc] 67))) 2
  have c3 : _ = some (Value.int .i64 v3) := box_keptG (Ext.refl (w.alloc (.cells #[.string v0, .int .i64 v1, .int .i64 v2, .int .i64 v3, .slice ra rn rc] 67))) 3
  have hm9 : m ≤ 4294967296 := hm
  cases hp : inB y v2 v3
  · have HZ := Lib.hid (And.intro hp (show ofKind zs y cl ⟨v0, v1, v2, v3, v4⟩ = false by rw [ofKind, inP, hp]; rfl))
    clear hp
    go_enter Tryz.func51, Tryz.ntmps51
    go_wp2
    refine wp_region_held_drew (S := Ext _) (by kernel_rfl) (Ext.refl _).drew (fun hHeld => ?_)
    generalize hwd : World.drew _ = wd at hHeld ⊢
    clear hwd
    refine takeYesH 0 6 ?v1 rfl rfl (by kernel_rfl) (by kernel_rfl) (by kernel_rfl) (fun _ _ _ _ h => h) (by kernel_rfl) hHeld ?y1 ?r1
    case y1 => intro wq hq; go_simp; first | done | with_reducible rfl
    simp only [Act.put, List.setIfInBounds_toArray, List.set_cons_zero, List.set_cons_succ]
    refine takeYesH 1 7 ?v2 rfl rfl (by kernel_rfl) (by kernel_rfl) (by kernel_rfl) (fun _ _ _ _ h => h) (by kernel_rfl) hHeld ?y2 ?r2
    case y2 =>
      intro wq hq
      have z1 := (Below.cell hq (p := ⟨w.heap.size, 1, none⟩) (by simp)).trans c1
      have z2 := (Below.cell hq (p := ⟨w.heap.size, 2, none⟩) (by simp)).trans c2
      have z3 := (Below.cell hq (p := ⟨w.heap.size, 3, none⟩) (by simp)).trans c3
      have z4 := (G1.out.ext hq).2
      have z5 := (G2.out.ext hq).2
      have z6 := (G3.out.ext hq).2
      go_simp
      first | done | with_reducible rfl
    simp only [Act.put, List.setIfInBounds_toArray, List.set_cons_zero, List.set_cons_succ]
    refine takeYesH 2 8 ?v3 rfl rfl (by kernel_rfl) (by kernel_rfl) (by kernel_rfl) (fun _ _ _ _ h => h) (by kernel_rfl) hHeld ?y3 ?r3
    case y3 =>
      intro wq hq
      have z1 := (Below.cell hq (p := ⟨w.heap.size, 1, none⟩) (by simp)).trans c1
      have z2 := (Below.cell hq (p := ⟨w.heap.size, 2, none⟩) (by simp)).trans c2
      have z3 := (Below.cell hq (p := ⟨w.heap.size, 3, none⟩) (by simp)).trans c3
      have z4 := (G1.out.ext hq).2
      have z5 := (G2.out.ext hq).2
      have z6 := (G3.out.ext hq).2
      go_simp
      first | done | with_reducible rfl
    simp only [Act.put, List.setIfInBounds_toArray, List.set_cons_zero, List.set_cons_succ]
    refine wpAnyH_ready (rs := [3]) (by kernel_rfl) (by simp) ?_
    refine AllReadyH.cons rfl (fun K hK => ?_) AllReadyH.nil
    go_simp
    refine (has_any ⟨v2, v3⟩ y _).mono ?_
    rintro e w1 ⟨rfl, e1⟩
    rw [HZ.out.1]
    go_wp2_with fail
    refine hK.out _ _ (hHeld.trans e1) (fun hHeld => ?_)
    clear hK K
    try simp only [Act.put, List.setIfInBounds_toArray, List.set_cons_zero, List.set_cons_succ]
    refine takeYesH 4 10 ?v4 rfl rfl (by kernel_rfl) (by kernel_rfl) (by kernel_rfl) (fun _ _ _ _ h => h) (by kernel_rfl) hHeld ?y4 ?r4
    case y4 => intro wq hq; go_simp; first | done | with_reducible rfl
    simp only [Act.put, List.setIfInBounds_toArray, List.set_cons_zero, List.set_cons_succ]
    refine takeNoH 5 11 rfl rfl (by kernel_rfl) (by kernel_rfl) (by kernel_rfl) (fun _ _ _ _ h => h) (by kernel_rfl) hHeld ?_
    simp only [Act.put, List.setIfInBounds_toArray, List.set_cons_zero, List.set_cons_succ]
    refine takeNoH 6 12 rfl rfl (by kernel_rfl) (by kernel_rfl) (by kernel_rfl) (fun _ _ _ _ h => h) (by kernel_rfl) hHeld ?_
    simp only [Act.put, List.setIfInBounds_toArray, List.set_cons_zero, List.set_cons_succ]
    refine takeNoH 7 13 rfl rfl (by kernel_rfl) (by kernel_rfl) (by kernel_rfl) (fun _ _ _ _ h => h) (by kernel_rfl) hHeld ?_
    simp only [Act.put, List.setIfInBounds_toArray, List.set_cons_zero, List.set_cons_succ]
    refine takeNoH 8 14 rfl rfl (by kernel_rfl) (by kernel_rfl) (by kernel_rfl) (fun _ _ _ _ h => h) (by kernel_rfl) hHeld ?_
    simp only [Act.put, List.setIfInBounds_toArray, List.set_cons_zero, List.set_cons_succ]
    refine takeNoH 9 15 rfl rfl (by kernel_rfl) (by kernel_rfl) (by kernel_rfl) (fun _ _ _ _ h => h) (by kernel_rfl) hHeld ?_
    simp only [Act.put, List.setIfInBounds_toArray, List.set_cons_zero, List.set_cons_succ]
    refine takeYesH 10 16 ?v5 rfl rfl (by kernel_rfl) (by kernel_rfl) (by kernel_rfl) (fun _ _ _ _ h => h) (by kernel_rfl) hHeld ?y5 ?r5
    case y5 => intro wq hq; go_simp; first | done | with_reducible rfl
    simp only [Act.put, List.setIfInBounds_toArray, List.set_cons_zero, List.set_cons_succ]
    refine takeYesH 11 17 ?v6 rfl rfl (by kernel_rfl) (by kernel_rfl) (by kernel_rfl) (fun _ _ _ _ h => h) (by kernel_rfl) hHeld ?y6 ?r6
    case y6 => intro wq hq; go_simp; first | done | with_reducible rfl
    simp only [Act.put, List.setIfInBounds_toArray, List.set_cons_zero, List.set_cons_succ]
    refine takeNoH 12 18 rfl rfl (by kernel_rfl) (by kernel_rfl) (by kernel_rfl) (fun _ _ _ _ h => h) (by kernel_rfl) hHeld ?_
    simp only [Act.put, List.setIfInBounds_toArray, List.set_cons_zero, List.set_cons_succ]
    refine takeNoH 13 19 rfl rfl (by kernel_rfl) (by kernel_rfl) (by kernel_rfl) (fun _ _ _ _ h => h) (by kernel_rfl) hHeld ?_
    simp only [Act.put, List.setIfInBounds_toArray, List.set_cons_zero, List.set_cons_succ]
    refine takeNoH 14 20 rfl rfl (by kernel_rfl) (by kernel_rfl) (by kernel_rfl) (fun _ _ _ _ h => h) (by kernel_rfl) hHeld ?_
    simp only [Act.put, List.setIfInBounds_toArray, List.set_cons_zero, List.set_cons_succ]
    refine takeNoH 15 21 rfl rfl (by kernel_rfl) (by kernel_rfl) (by kernel_rfl) (fun _ _ _ _ h => h) (by kernel_rfl) hHeld ?_
    simp only [Act.put, List.setIfInBounds_toArray, List.set_cons_zero, List.set_cons_succ]
    refine takeNoH 16 22 rfl rfl (by kernel_rfl) (by kernel_rfl) (by kernel_rfl) (fun _ _ _ _ h => h) (by kernel_rfl) hHeld ?_
    simp only [Act.put, List.setIfInBounds_toArray, List.set_cons_zero, List.set_cons_succ]
    refine takeYesH 17 23 ?v7 rfl rfl (by kernel_rfl) (by kernel_rfl) (by kernel_rfl) (fun _ _ _ _ h => h) (by kernel_rfl) hHeld ?y7 ?r7
    case y7 => intro wq hq; go_simp; first | done | with_reducible rfl
    simp only [Act.put, List.setIfInBounds_toArray, List.set_cons_zero, List.set_cons_succ]
    refine takeYesH 18 5 ?v8 rfl rfl (by kernel_rfl) (by kernel_rfl) (by kernel_rfl) (fun _ _ _ _ h => h) (by kernel_rfl) hHeld ?y8 ?r8
    case y8 => intro wq hq; go_simp; first | done | with_reducible rfl
    simp only [Act.put, List.setIfInBounds_toArray, List.set_cons_zero, List.set_cons_succ]
    refine wpAnyH_done (by kernel_rfl) ?_ _
    go_wp2
    go_ret
    exact ⟨ret_bool HZ.out.2.symm, xb.trans hHeld⟩
  by_cases hc : v1 < m
  · obtain ⟨q, rfl⟩ := Int.eq_ofNat_of_zero_le h0
    have hq : q < m := by omega
    have HZ := Lib.hid (And.intro hp (show ofKind zs y cl ⟨v0, q, v2, v3, v4⟩ = hasI (kinds zs q) cl by rw [ofKind, inP, hp, hln, decide_eq_true hc]; rfl))
    clear hp
    go_enter Tryz.func51, Tryz.ntmps51
    go_wp2
    refine wp_region_held_drew (S := Ext _) (by kernel_rfl) (Ext.refl _).drew (fun hHeld => ?_)
    generalize hwd : World.drew _ = wd at hHeld ⊢
    clear hwd
    refine takeYesH 0 6 ?v9 rfl rfl (by kernel_rfl) (by kernel_rfl) (by kernel_rfl) (fun _ _ _ _ h => h) (by kernel_rfl) hHeld ?y9 ?r9
    case y9 => intro wq hq; go_simp; first | done | with_reducible rfl
    simp only [Act.put, List.setIfInBounds_toArray, List.set_cons_zero, List.set_cons_succ]
    refine takeYesH 1 7 ?v10 rfl rfl (by kernel_rfl) (by kernel_rfl) (by kernel_rfl) (fun _ _ _ _ h => h) (by kernel_rfl) hHeld ?y10 ?r10
    case y10 =>
      intro wq hq
      have z1 := (Below.cell hq (p := ⟨w.heap.size, 1, none⟩) (by simp)).trans c1
      have z2 := (Below.cell hq (p := ⟨w.heap.size, 2, none⟩) (by simp)).trans c2
      have z3 := (Below.cell hq (p := ⟨w.heap.size, 3, none⟩) (by simp)).trans c3
      have z4 := (G1.out.ext hq).2
      have z5 := (G2.out.ext hq).2
      have z6 := (G3.out.ext hq).2
      go_simp
      first | done | with_reducible rfl
    simp only [Act.put, List.setIfInBounds_toArray, List.set_cons_zero, List.set_cons_succ]
    refine takeYesH 2 8 ?v11 rfl rfl (by kernel_rfl) (by kernel_rfl) (by kernel_rfl) (fun _ _ _ _ h => h) (by kernel_rfl) hHeld ?y11 ?r11
    case y11 =>
      intro wq hq
      have z1 := (Below.cell hq (p := ⟨w.heap.size, 1, none⟩) (by simp)).trans c1
      have z2 := (Below.cell hq (p := ⟨w.heap.size, 2, none⟩) (by simp)).trans c2
      have z3 := (Below.cell hq (p := ⟨w.heap.size, 3, none⟩) (by simp)).trans c3
      have z4 := (G1.out.ext hq).2
      have z5 := (G2.out.ext hq).2
      have z6 := (G3.out.ext hq).2
      go_simp
      first | done | with_reducible rfl
    simp only [Act.put, List.setIfInBounds_toArray, List.set_cons_zero, List.set_cons_succ]
    refine wpAnyH_ready (rs := [3]) (by kernel_rfl) (by simp) ?_
    refine AllReadyH.cons rfl (fun K hK => ?_) AllReadyH.nil
    go_simp
    refine (has_any ⟨v2, v3⟩ y _).mono ?_
    rintro e w1 ⟨rfl, e1⟩
    rw [HZ.out.1]
    go_wp2_with fail
    refine hK.out _ _ (hHeld.trans e1) (fun hHeld => ?_)
    clear hK K
    try simp only [Act.put, List.setIfInBounds_toArray, List.set_cons_zero, List.set_cons_succ]
    refine takeYesH 4 10 ?v12 rfl rfl (by kernel_rfl) (by kernel_rfl) (by kernel_rfl) (fun _ _ _ _ h => h) (by kernel_rfl) hHeld ?y12 ?r12
    case y12 => intro wq hq; go_simp; first | done | with_reducible rfl
    simp only [Act.put, List.setIfInBounds_toArray, List.set_cons_zero, List.set_cons_succ]
    refine takeYesH 5 11 ?v13 rfl rfl (by kernel_rfl) (by kernel_rfl) (by kernel_rfl) (fun _ _ _ _ h => h) (by kernel_rfl) hHeld ?y13 ?r13
    case y13 => intro wq hq; go_simp; first | done | with_reducible rfl
    simp only [Act.put, List.setIfInBounds_toArray, List.set_cons_zero, List.set_cons_succ]
    refine takeYesH 6 12 ?v14 rfl rfl (by kernel_rfl) (by kernel_rfl) (by kernel_rfl) (fun _ _ _ _ h => h) (by kernel_rfl) hHeld ?y14 ?r14
    case y14 =>
      intro wq hq
      have z1 := (Below.cell hq (p := ⟨w.heap.size, 1, none⟩) (by simp)).trans c1
      have z2 := (Below.cell hq (p := ⟨w.heap.size, 2, none⟩) (by simp)).trans c2
      have z3 := (Below.cell hq (p := ⟨w.heap.size, 3, none⟩) (by simp)).trans c3
      have z4 := (G1.out.ext hq).2
      have z5 := (G2.out.ext hq).2
      have z6 := (G3.out.ext hq).2
      go_simp
      first | done | with_reducible rfl
    simp only [Act.put, List.setIfInBounds_toArray, List.set_cons_zero, List.set_cons_succ]
    refine takeYesH 7 13 ?v15 rfl rfl (by kernel_rfl) (by kernel_rfl) (by kernel_rfl) (fun _ _ _ _ h => h) (by kernel_rfl) hHeld ?y15 ?r15
    case y15 =>
      intro wq hq
      have z1 := (Below.cell hq (p := ⟨w.heap.size, 1, none⟩) (by simp)).trans c1
      have z2 := (Below.cell hq (p := ⟨w.heap.size, 2, none⟩) (by simp)).trans c2
      have z3 := (Below.cell hq (p := ⟨w.heap.size, 3, none⟩) (by simp)).trans c3
      have z4 := (G1.out.ext hq).2
      have z5 := (G2.out.ext hq).2
      have z6 := (G3.out.ext hq).2
      go_simp
      first | done | with_reducible rfl
    simp only [Act.put, List.setIfInBounds_toArray, List.set_cons_zero, List.set_cons_succ]
    refine wpAnyH_ready (rs := [8]) (by kernel_rfl) (by simp) ?_
    refine AllReadyH.cons rfl (fun K hK => ?_) AllReadyH.nil
    go_simp
    refine (length_int64_any _ _ _ _ (by omega)).mono ?_
    rintro e w2 ⟨rfl, rfl⟩
    go_wp2_with fail
    refine hK.out _ _ (hHeld.trans (Ext.refl _)) (fun hHeld => ?_)
    clear hK K
    try simp only [Act.put, List.setIfInBounds_toArray, List.set_cons_zero, List.set_cons_succ]
    refine takeYesH 9 15 ?v16 rfl rfl (by kernel_rfl) (by kernel_rfl) (by kernel_rfl) (fun _ _ _ _ h => h) (by kernel_rfl) hHeld ?y16 ?r16
    case y16 => intro wq hq; go_simp; first | done | with_reducible rfl
    simp only [Act.put, List.setIfInBounds_toArray, List.set_cons_zero, List.set_cons_succ]
    refine takeYesH 10 16 ?v17 rfl rfl (by kernel_rfl) (by kernel_rfl) (by kernel_rfl) (fun _ _ _ _ h => h) (by kernel_rfl) hHeld ?y17 ?r17
    case y17 => intro wq hq; go_simp; first | done | with_reducible rfl
    simp only [Act.put, List.setIfInBounds_toArray, List.set_cons_zero, List.set_cons_succ]
    refine takeYesH 11 17 ?v18 rfl rfl (by kernel_rfl) (by kernel_rfl) (by kernel_rfl) (fun _ _ _ _ h => h) (by kernel_rfl) hHeld ?y18 ?r18
    case y18 => intro wq hq; go_simp; first | done | with_reducible rfl
    simp only [Act.put, List.setIfInBounds_toArray, List.set_cons_zero, List.set_cons_succ]
    refine takeYesH 12 18 ?v19 rfl rfl (by kernel_rfl) (by kernel_rfl) (by kernel_rfl) (fun _ _ _ _ h => h) (by kernel_rfl) hHeld ?y19 ?r19
    case y19 =>
      intro wq hq
      have z1 := (Below.cell hq (p := ⟨w.heap.size, 1, none⟩) (by simp)).trans c1
      have z2 := (Below.cell hq (p := ⟨w.heap.size, 2, none⟩) (by simp)).trans c2
      have z3 := (Below.cell hq (p := ⟨w.heap.size, 3, none⟩) (by simp)).trans c3
      have z4 := (G1.out.ext hq).2
      have z5 := (G2.out.ext hq).2
      have z6 := (G3.out.ext hq).2
      go_simp
      first | done | with_reducible rfl
    simp only [Act.put, List.setIfInBounds_toArray, List.set_cons_zero, List.set_cons_succ]
    refine takeYesH 13 19 ?v20 rfl rfl (by kernel_rfl) (by kernel_rfl) (by kernel_rfl) (fun _ _ _ _ h => h) (by kernel_rfl) hHeld ?y20 ?r20
    case y20 => intro wq hq; go_simp; first | done | with_reducible rfl
    simp only [Act.put, List.setIfInBounds_toArray, List.set_cons_zero, List.set_cons_succ]
    refine takeYesH 14 20 ?v21 rfl rfl (by kernel_rfl) (by kernel_rfl) (by kernel_rfl) (fun _ _ _ _ h => h) (by kernel_rfl) hHeld ?y21 ?r21
    case y21 =>
      intro wq hq
      have z1 := (Below.cell hq (p := ⟨w.heap.size, 1, none⟩) (by simp)).trans c1
      have z2 := (Below.cell hq (p := ⟨w.heap.size, 2, none⟩) (by simp)).trans c2
      have z3 := (Below.cell hq (p := ⟨w.heap.size, 3, none⟩) (by simp)).trans c3
      have z4 := (G1.out.ext hq).2
      have z5 := (G2.out.ext hq).2
      have z6 := (G3.out.ext hq).2
      go_simp
      first | done | with_reducible rfl
    simp only [Act.put, List.setIfInBounds_toArray, List.set_cons_zero, List.set_cons_succ]
    refine takeYesH 15 21 ?v22 rfl rfl (by kernel_rfl) (by kernel_rfl) (by kernel_rfl) (fun _ _ _ _ h => h) (by kernel_rfl) hHeld ?y22 ?r22
    case y22 =>
      intro wq hq
      have z1 := (Below.cell hq (p := ⟨w.heap.size, 1, none⟩) (by simp)).trans c1
      have z2 := (Below.cell hq (p := ⟨w.heap.size, 2, none⟩) (by simp)).trans c2
      have z3 := (Below.cell hq (p := ⟨w.heap.size, 3, none⟩) (by simp)).trans c3
      have z4 := (G1.out.ext hq).2
      have z5 := (G2.out.ext hq).2
      have z6 := (G3.out.ext hq).2
      go_simp
      first | done | with_reducible rfl
    simp only [Act.put, List.setIfInBounds_toArray, List.set_cons_zero, List.set_cons_succ]
    refine wpAnyH_ready (rs := [16]) (by kernel_rfl) (by simp) ?_
    refine AllReadyH.cons rfl (fun K hK => ?_) AllReadyH.nil
    go_simp
    refine (isKindOf_any _ _ _ _ _ _ _ (hr.ext (xb.trans hHeld)) ht hq).mono ?_
    rintro e w3 ⟨rfl, e3⟩
    go_wp2_with fail
    refine hK.out _ _ (hHeld.trans e3) (fun hHeld => ?_)
    clear hK K
    try simp only [Act.put, List.setIfInBounds_toArray, List.set_cons_zero, List.set_cons_succ]
    refine takeYesH 17 23 ?v23 rfl rfl (by kernel_rfl) (by kernel_rfl) (by kernel_rfl) (fun _ _ _ _ h => h) (by kernel_rfl) hHeld ?y23 ?r23
    case y23 => intro wq hq; go_simp; first | done | with_reducible rfl
    simp only [Act.put, List.setIfInBounds_toArray, List.set_cons_zero, List.set_cons_succ]
    refine takeYesH 18 5 ?v24 rfl rfl (by kernel_rfl) (by kernel_rfl) (by kernel_rfl) (fun _ _ _ _ h => h) (by kernel_rfl) hHeld ?y24 ?r24
    case y24 => intro wq hq; go_simp; first | done | with_reducible rfl
    simp only [Act.put, List.setIfInBounds_toArray, List.set_cons_zero, List.set_cons_succ]
    refine wpAnyH_done (by kernel_rfl) ?_ _
    go_wp2
    go_ret
    exact ⟨ret_bool HZ.out.2.symm, xb.trans hHeld⟩
  · have HZ := Lib.hid (And.intro hp (show ofKind zs y cl ⟨v0, v1, v2, v3, v4⟩ = false by rw [ofKind, inP, hp, hln, decide_eq_false hc]; rfl))
    have hcd : decide (v1 < (m : Int)) = false := decide_eq_false hc
    clear hp
    go_enter Tryz.func51, Tryz.ntmps51
    go_wp2
    refine wp_region_held_drew (S := Ext _) (by kernel_rfl) (Ext.refl _).drew (fun hHeld => ?_)
    generalize hwd : World.drew _ = wd at hHeld ⊢
    clear hwd
    refine takeYesH 0 6 ?v25 rfl rfl (by kernel_rfl) (by kernel_rfl) (by kernel_rfl) (fun _ _ _ _ h => h) (by kernel_rfl) hHeld ?y25 ?r25
    case y25 => intro wq hq; go_simp; first | done | with_reducible rfl
    simp only [Act.put, List.setIfInBounds_toArray, List.set_cons_zero, List.set_cons_succ]
    refine takeYesH 1 7 ?v26 rfl rfl (by kernel_rfl) (by kernel_rfl) (by kernel_rfl) (fun _ _ _ _ h => h) (by kernel_rfl) hHeld ?y26 ?r26
    case y26 =>
      intro wq hq
      have z1 := (Below.cell hq (p := ⟨w.heap.size, 1, none⟩) (by simp)).trans c1
      have z2 := (Below.cell hq (p := ⟨w.heap.size, 2, none⟩) (by simp)).trans c2
      have z3 := (Below.cell hq (p := ⟨w.heap.size, 3, none⟩) (by simp)).trans c3
      have z4 := (G1.out.ext hq).2
      have z5 := (G2.out.ext hq).2
      have z6 := (G3.out.ext hq).2
      go_simp
      first | done | with_reducible rfl
    simp only [Act.put, List.setIfInBounds_toArray, List.set_cons_zero, List.set_cons_succ]
    refine takeYesH 2 8 ?v27 rfl rfl (by kernel_rfl) (by kernel_rfl) (by kernel_rfl) (fun _ _ _ _ h => h) (by kernel_rfl) hHeld ?y27 ?r27
    case y27 =>
      intro wq hq
      have z1 := (Below.cell hq (p := ⟨w.heap.size, 1, none⟩) (by simp)).trans c1
      have z2 := (Below.cell hq (p := ⟨w.heap.size, 2, none⟩) (by simp)).trans c2
      have z3 := (Below.cell hq (p := ⟨w.heap.size, 3, none⟩) (by simp)).trans c3
      have z4 := (G1.out.ext hq).2
      have z5 := (G2.out.ext hq).2
      have z6 := (G3.out.ext hq).2
      go_simp
      first | done | with_reducible rfl
    simp only [Act.put, List.setIfInBounds_toArray, List.set_cons_zero, List.set_cons_succ]
    refine wpAnyH_ready (rs := [3]) (by kernel_rfl) (by simp) ?_
    refine AllReadyH.cons rfl (fun K hK => ?_) AllReadyH.nil
    go_simp
    refine (has_any ⟨v2, v3⟩ y _).mono ?_
    rintro e w1 ⟨rfl, e1⟩
    rw [HZ.out.1]
    go_wp2_with fail
    refine hK.out _ _ (hHeld.trans e1) (fun hHeld => ?_)
    clear hK K
    try simp only [Act.put, List.setIfInBounds_toArray, List.set_cons_zero, List.set_cons_succ]
    refine takeYesH 4 10 ?v28 rfl rfl (by kernel_rfl) (by kernel_rfl) (by kernel_rfl) (fun _ _ _ _ h => h) (by kernel_rfl) hHeld ?y28 ?r28
    case y28 => intro wq hq; go_simp; first | done | with_reducible rfl
    simp only [Act.put, List.setIfInBounds_toArray, List.set_cons_zero, List.set_cons_succ]
    refine takeYesH 5 11 ?v29 rfl rfl (by kernel_rfl) (by kernel_rfl) (by kernel_rfl) (fun _ _ _ _ h => h) (by kernel_rfl) hHeld ?y29 ?r29
    case y29 => intro wq hq; go_simp; first | done | with_reducible rfl
    simp only [Act.put, List.setIfInBounds_toArray, List.set_cons_zero, List.set_cons_succ]
    refine takeYesH 6 12 ?v30 rfl rfl (by kernel_rfl) (by kernel_rfl) (by kernel_rfl) (fun _ _ _ _ h => h) (by kernel_rfl) hHeld ?y30 ?r30
    case y30 =>
      intro wq hq
      have z1 := (Below.cell hq (p := ⟨w.heap.size, 1, none⟩) (by simp)).trans c1
      have z2 := (Below.cell hq (p := ⟨w.heap.size, 2, none⟩) (by simp)).trans c2
      have z3 := (Below.cell hq (p := ⟨w.heap.size, 3, none⟩) (by simp)).trans c3
      have z4 := (G1.out.ext hq).2
      have z5 := (G2.out.ext hq).2
      have z6 := (G3.out.ext hq).2
      go_simp
      first | done | with_reducible rfl
    simp only [Act.put, List.setIfInBounds_toArray, List.set_cons_zero, List.set_cons_succ]
    refine takeYesH 7 13 ?v31 rfl rfl (by kernel_rfl) (by kernel_rfl) (by kernel_rfl) (fun _ _ _ _ h => h) (by kernel_rfl) hHeld ?y31 ?r31
    case y31 =>
      intro wq hq
      have z1 := (Below.cell hq (p := ⟨w.heap.size, 1, none⟩) (by simp)).trans c1
      have z2 := (Below.cell hq (p := ⟨w.heap.size, 2, none⟩) (by simp)).trans c2
      have z3 := (Below.cell hq (p := ⟨w.heap.size, 3, none⟩) (by simp)).trans c3
      have z4 := (G1.out.ext hq).2
      have z5 := (G2.out.ext hq).2
      have z6 := (G3.out.ext hq).2
      go_simp
      first | done | with_reducible rfl
    simp only [Act.put, List.setIfInBounds_toArray, List.set_cons_zero, List.set_cons_succ]
    refine wpAnyH_ready (rs := [8]) (by kernel_rfl) (by simp) ?_
    refine AllReadyH.cons rfl (fun K hK => ?_) AllReadyH.nil
    go_simp
    refine (length_int64_any _ _ _ _ (by omega)).mono ?_
    rintro e w2 ⟨rfl, rfl⟩
    go_wp2_with fail
    refine hK.out _ _ (hHeld.trans (Ext.refl _)) (fun hHeld => ?_)
    clear hK K
    try simp only [Act.put, List.setIfInBounds_toArray, List.set_cons_zero, List.set_cons_succ]
    refine takeYesH 9 15 ?v32 rfl rfl (by kernel_rfl) (by kernel_rfl) (by kernel_rfl) (fun _ _ _ _ h => h) (by kernel_rfl) hHeld ?y32 ?r32
    case y32 => intro wq hq; go_simp; first | done | with_reducible rfl
    simp only [Act.put, List.setIfInBounds_toArray, List.set_cons_zero, List.set_cons_succ]
    refine takeYesH 10 16 ?v33 rfl rfl (by kernel_rfl) (by kernel_rfl) (by kernel_rfl) (fun _ _ _ _ h => h) (by kernel_rfl) hHeld ?y33 ?r33
    case y33 => intro wq hq; go_simp; first | done | with_reducible rfl
    simp only [Act.put, List.setIfInBounds_toArray, List.set_cons_zero, List.set_cons_succ]
    refine takeYesH 11 17 ?v34 rfl rfl (by kernel_rfl) (by kernel_rfl) (by kernel_rfl) (fun _ _ _ _ h => h) (by kernel_rfl) hHeld ?y34 ?r34
    case y34 => intro wq hq; go_simp; first | done | with_reducible rfl
    simp only [Act.put, List.setIfInBounds_toArray, List.set_cons_zero, List.set_cons_succ]
    refine takeNoH 12 18 rfl rfl (by kernel_rfl) (by kernel_rfl) (by kernel_rfl) (fun _ _ _ _ h => h) (by kernel_rfl) hHeld ?_
    simp only [Act.put, List.setIfInBounds_toArray, List.set_cons_zero, List.set_cons_succ]
    refine takeNoH 13 19 rfl rfl (by kernel_rfl) (by kernel_rfl) (by kernel_rfl) (fun _ _ _ _ h => h) (by kernel_rfl) hHeld ?_
    simp only [Act.put, List.setIfInBounds_toArray, List.set_cons_zero, List.set_cons_succ]
    refine takeNoH 14 20 rfl rfl (by kernel_rfl) (by kernel_rfl) (by kernel_rfl) (fun _ _ _ _ h => h) (by kernel_rfl) hHeld ?_
    simp only [Act.put, List.setIfInBounds_toArray, List.set_cons_zero, List.set_cons_succ]
    refine takeNoH 15 21 rfl rfl (by kernel_rfl) (by kernel_rfl) (by kernel_rfl) (fun _ _ _ _ h => h) (by kernel_rfl) hHeld ?_
    simp only [Act.put, List.setIfInBounds_toArray, List.set_cons_zero, List.set_cons_succ]
    refine takeNoH 16 22 rfl rfl (by kernel_rfl) (by kernel_rfl) (by kernel_rfl) (fun _ _ _ _ h => h) (by kernel_rfl) hHeld ?_
    simp only [Act.put, List.setIfInBounds_toArray, List.set_cons_zero, List.set_cons_succ]
    refine takeYesH 17 23 ?v35 rfl rfl (by kernel_rfl) (by kernel_rfl) (by kernel_rfl) (fun _ _ _ _ h => h) (by kernel_rfl) hHeld ?y35 ?r35
    case y35 => intro wq hq; go_simp; first | done | with_reducible rfl
    simp only [Act.put, List.setIfInBounds_toArray, List.set_cons_zero, List.set_cons_succ]
    refine takeYesH 18 5 ?v36 rfl rfl (by kernel_rfl) (by kernel_rfl) (by kernel_rfl) (fun _ _ _ _ h => h) (by kernel_rfl) hHeld ?y36 ?r36
    case y36 => intro wq hq; go_simp; first | done | with_reducible rfl
    simp only [Act.put, List.setIfInBounds_toArray, List.set_cons_zero, List.set_cons_succ]
    refine wpAnyH_done (by kernel_rfl) ?_ _
    go_wp2
    go_ret
    exact ⟨ret_bool HZ.out.2.symm, xb.trans hHeld⟩

set_option maxRecDepth 100000 in
set_option maxHeartbeats 2000000 in
theorem codesKind_any (a : Option Addr) (n c : Nat) (xs : List PlaceV) (p : PlaceV → Bool) (q0 : Addr) (q1 : Addr) (q2 : Addr) (w : World) (hr : RdPlace w a n xs) (hn : n ≤ 1048576) (hk : ∀ w1, Ext w w1 → ∀ k, k < n → ∀ r, NamesAt w1 r (nthPlace xs k) → Calls Tryz.prog 51 #[valPlace (nthPlace xs k) r, .pointer (some q0), .pointer (some q1), .pointer (some q2)] w1 fun e w2 => e = .returned (.bool (p (nthPlace xs k))) ∧ Ext w1 w2) :
    Calls Tryz.prog 40 #[.slice a n c, .func (.func 51) #[] #[.pointer (some q0), .pointer (some q1), .pointer (some q2)]] w fun e w' => ∃ v, e = .returned v ∧ ∃ a1 n1 c1, v = .slice a1 n1 c1 ∧ n1 ≤ n ∧ OwnS w' w.heap.size a1 n1 c1 (pickL p PlaceV.code xs n) ∧ Ext w w' := by
  obtain ⟨f, hr⟩ := hr
  have hm := hr.le
  have hln := hr.len
  have HC := Lib.hid hk
  clear hk
  go_enter Tryz.func40, Tryz.ntmps40
  go_wp2
  go_loopw [5, 10] (fun v i wr => ∃ (k : Nat) (l : List ByteArray) (a1 : Option Addr) (c1 : Nat), k ≤ n ∧ i = .int .i64 k ∧ v = .slice a1 l.length c1 ∧ l = pickL p PlaceV.code xs k ∧ OwnG layS 9 wr w.heap.size a1 l.length c1 l ∧ Ext w wr) (fun _ i _ => n - (intOf i).toNat)
  case atStart => exact ⟨0, [], _, _, Nat.zero_le _, rfl, rfl, (pick_zero _ _ _).symm, OwnG.isNil _ _ _ _, Ext.refl _⟩
  case round =>
    obtain ⟨k, l, a1, c1, hk, rfl, rfl, hl, ho, hx⟩ := hrel
    have HL := Lib.hid hl
    have hll : l.length ≤ k := by rw [hl]; exact pick_len _ _ _ _
    clear hl
    by_cases hlt : k < n
    · obtain ⟨b, o, rfl, hbl, hA⟩ := (hr.ext hx).at (by omega)
      obtain ⟨hc0, hc1, hc2, hc3, hc4⟩ := hA k hlt
      have hna := (hr.ext hx).2 k hlt
      have hki : (k : Int) < n := by omega
      have xb := (Ext.refl wr).alloc (.cells #[.string (nthPlace xs k).code, .int .i64 (nthPlace xs k).klass, .int .i64 (nthPlace xs k).from_, .int .i64 (nthPlace xs k).to_, .slice (f k).a (f k).n (f k).c] 67)
      have hxA := hx.trans xb
      have hoA := ho.ext xb
      have hget : xs[k]? = some (nthPlace xs k) := by rw [nthPlace_eq (by omega)]; exact List.getElem?_eq_getElem (by omega)
      clear hA
      cases hp : p (nthPlace xs k)
      · have HS := Lib.hid (And.intro (pick_out (p := p) (f := PlaceV.code) hget hp) hp)
        clear hp hget
        go_wp2_with fail
        refine (HC.out _ hxA k hlt (f k) (hna.ext xb)).mono ?_
        rintro e w1 ⟨rfl, e1⟩
        rw [HS.out.2]
        go_wp2
        go_roundw
        case rel => exact ⟨k + 1, l, a1, c1, by omega, by go_num, rfl, by rw [HS.out.1, ← HL.out], hoA.ext e1, hxA.trans e1⟩
        case measure => simp [intOf]; omega
      · have HS := Lib.hid (And.intro (pick_in (p := p) (f := PlaceV.code) hget hp) hp)
        clear hp hget
        go_wp2_with fail
        refine (HC.out _ hxA k hlt (f k) (hna.ext xb)).mono ?_
        rintro e w1 ⟨rfl, e1⟩
        rw [HS.out.2]
        have b0 : _ = some (Value.string (nthPlace xs k).code) := box_keptG e1 0
        have hoE := hoA.ext e1
        have hxE := hxA.trans e1
        clear e1 hoA hxA ho hx xb
        go_wp2_with (first | (at_builtin; refine wpList_appG layS rfl _ _ 27 9 rfl Tryz.underlying27 (.string ⟨#[]⟩) 16 Tryz.info_string rfl (by decide) w.heap.size _ l.length _ l rfl (hoE.alloc _) _ 1 _ [(nthPlace xs k).code] rfl (RdG.new1 layS _ _ _ rfl _) (by omega) (hxE.alloc _).size ?_; intro a2 c2 w2 hown hgrow; have hb2 := hxE.appG hoE (Nat.le_refl _) hgrow; have HO := Lib.hid hown; clear hown))
        go_roundw
        case rel => exact ⟨k + 1, l ++ [(nthPlace xs k).code], a2, c2, by omega, by go_num, by simp, by rw [HS.out.1, ← HL.out], by simpa using HO.out, hb2⟩
        case measure => simp [intOf]; omega
    · obtain rfl : k = n := by omega
      go_wp2
      go_ret
      refine ⟨_, rfl, a1, l.length, c1, rfl, hll, ?_, hx⟩
      rw [← HL.out]
      refine ⟨ho, fun z hz => ?_⟩
      rw [HL.out] at hz
      obtain ⟨x, hx', _, rfl⟩ := pick_mem hz
      obtain ⟨j, hj, rfl⟩ := List.getElem_of_mem hx'
      have := (hr.2 j (by omega)).2.2.1
      rwa [nthPlace_eq hj] at this

set_option maxRecDepth 100000 in
set_option maxHeartbeats 1000000 in
theorem implPlacesOfKind_any (a a2 : Option Addr) (n c m c2 : Nat) (cl y : Int) (xs : List PlaceV) (zs : List Int) (w : World) (hr : RdPlace w a n xs) (hcap : n ≤ c) (hr2 : RdI w a2 m zs) (hmax : MaxW w) :
    Calls Tryz.prog 10 #[.slice a n c, .slice a2 m c2, .int .i64 cl, .int .i64 y] w (RetTC w (okL xs zs cl y) (okC xs zs cl y)) := by
  have hln := hr.len
  have hln2 := hr2.len
  have hm2 := hr2.le
  have xb := (((Ext.refl w).alloc (.cells #[.slice a2 m c2] 30)).alloc (.cells #[.int .i64 cl] 2)).alloc (.cells #[.int .i64 y] 2)
  have k1 : _ = some (Value.slice a2 m c2) := box_keptG (((Ext.refl (w.alloc (.cells #[.slice a2 m c2] 30))).alloc (.cells #[.int .i64 cl] 2)).alloc (.cells #[.int .i64 y] 2)) 0
  have k2 : _ = some (Value.int .i64 cl) := box_keptG ((Ext.refl ((w.alloc (.cells #[.slice a2 m c2] 30)).alloc (.cells #[.int .i64 cl] 2))).alloc (.cells #[.int .i64 y] 2)) 0
  have k3 : _ = some (Value.int .i64 y) := box_keptG (Ext.refl (((w.alloc (.cells #[.slice a2 m c2] 30)).alloc (.cells #[.int .i64 cl] 2)).alloc (.cells #[.int .i64 y] 2))) 0
  simp only [World.size_alloc] at k1 k2 k3
  have H1 := Lib.hid (show HoldsSl _ w.heap.size a2 m c2 from ⟨by simp; omega, k1⟩)
  have H2 := Lib.hid (show HoldsInt _ (w.heap.size + 1) cl from ⟨by simp, k2⟩)
  have H3 := Lib.hid (show HoldsInt _ (w.heap.size + 1 + 1) y from ⟨by simp, k3⟩)
  clear k1 k2 k3
  have hwk : IntKind.i64.wrap ((m : Int) - 1) = (m : Int) - 1 := IntWalk.i64_in _ (by omega)
  by_cases hc : codeP xs (treeB zs) y = 0
  · have hreg := codeP_zero hc
    have hlen := (regB_at hreg.1).2
    have htr := treeB_tree hreg.2.1
    cases hi : inB cl 0 ((m : Int) - 1)
    · have HZ := Lib.hid (And.intro hc (And.intro hi (ok_range hc (by rw [hln2]; exact hi))))
      clear hc hi hreg
      go_enter Tryz.func10, Tryz.ntmps10
      go_wp2
      refine wp_region_held_drew (S := Ext _) (by kernel_rfl) (Ext.refl _).drew (fun hHeld => ?_)
      generalize hwd : World.drew _ = wd at hHeld ⊢
      clear hwd
      refine takeYesH 0 11 ?v42 rfl rfl (by kernel_rfl) (by kernel_rfl) (by kernel_rfl) (fun _ _ _ _ h => h) (by kernel_rfl) hHeld ?y42 ?r42
      case y42 => intro wq hq; go_simp; first | done | with_reducible rfl
      simp only [Act.put, List.setIfInBounds_toArray, List.set_cons_zero, List.set_cons_succ]
      refine takeYesH 1 12 ?v43 rfl rfl (by kernel_rfl) (by kernel_rfl) (by kernel_rfl) (fun _ _ _ _ h => h) (by kernel_rfl) hHeld ?y43 ?r43
      case y43 =>
        intro wq hq
        have z1 := (H1.out.ext hq).2
        have z2 := (H2.out.ext hq).2
        have z3 := (H3.out.ext hq).2
        go_simp
        first | done | with_reducible rfl
      simp only [Act.put, List.setIfInBounds_toArray, List.set_cons_zero, List.set_cons_succ]
      refine takeYesH 3 14 ?v44 rfl rfl (by kernel_rfl) (by kernel_rfl) (by kernel_rfl) (fun _ _ _ _ h => h) (by kernel_rfl) hHeld ?y44 ?r44
      case y44 =>
        intro wq hq
        have z1 := (H1.out.ext hq).2
        have z2 := (H2.out.ext hq).2
        have z3 := (H3.out.ext hq).2
        go_simp
        first | done | with_reducible rfl
      simp only [Act.put, List.setIfInBounds_toArray, List.set_cons_zero, List.set_cons_succ]
      refine wpAnyH_ready (rs := [2]) (by kernel_rfl) (by simp) ?_
      refine AllReadyH.cons rfl (fun K hK => ?_) AllReadyH.nil
      go_simp
      refine (implIsClassTree_any _ _ _ _ _ (hr2.ext (xb.trans hHeld))).mono ?_
      rintro e w1 ⟨rfl, rfl⟩
      go_wp2_with fail
      refine hK.out _ _ (hHeld.trans (Ext.refl _)) (fun hHeld => ?_)
      clear hK K
      try simp only [Act.put, List.setIfInBounds_toArray, List.set_cons_zero, List.set_cons_succ]
      refine wpAnyH_ready (rs := [4]) (by kernel_rfl) (by simp) ?_
      refine AllReadyH.cons rfl (fun K hK => ?_) AllReadyH.nil
      go_simp
      refine (registerCode_any _ _ _ _ _ _ _ (hr.ext (xb.trans hHeld)) hcap (hmax.ext (xb.trans hHeld))).mono ?_
      rintro e w2 ⟨rfl, e1⟩
      rw [HZ.out.1]
      go_wp2_with fail
      refine hK.out _ _ (hHeld.trans e1) (fun hHeld => ?_)
      clear hK K
      try simp only [Act.put, List.setIfInBounds_toArray, List.set_cons_zero, List.set_cons_succ]
      refine takeYesH 5 10 ?v45 rfl rfl (by kernel_rfl) (by kernel_rfl) (by kernel_rfl) (fun _ _ _ _ h => h) (by kernel_rfl) hHeld ?y45 ?r45
      case y45 => intro wq hq; go_simp; first | done | with_reducible rfl
      simp only [Act.put, List.setIfInBounds_toArray, List.set_cons_zero, List.set_cons_succ]
      refine wpAnyH_done (by kernel_rfl) ?_ _
      have e1 := hHeld
      have G1 := Lib.hid (H1.out.ext e1)
      have G2 := Lib.hid (H2.out.ext e1)
      have G3 := Lib.hid (H3.out.ext e1)
      clear hHeld
      go_wp2
      refine wp_region_held_drew (S := Ext _) (by kernel_rfl) (Ext.refl _).drew (fun hHeld => ?_)
      generalize hwd : World.drew _ = wd at hHeld ⊢
      clear hwd
      refine takeYesH 0 21 ?v37 rfl rfl (by kernel_rfl) (by kernel_rfl) (by kernel_rfl) (fun _ _ _ _ h => h) (by kernel_rfl) hHeld ?y37 ?r37
      case y37 =>
        intro wq hq
        have z1 := (G1.out.ext hq).2
        have z2 := (G2.out.ext hq).2
        have z3 := (G3.out.ext hq).2
        go_simp
        first | done | with_reducible rfl
      simp only [Act.put, List.setIfInBounds_toArray, List.set_cons_zero, List.set_cons_succ]
      refine takeYesH 1 22 ?v38 rfl rfl (by kernel_rfl) (by kernel_rfl) (by kernel_rfl) (fun _ _ _ _ h => h) (by kernel_rfl) hHeld ?y38 ?r38
      case y38 =>
        intro wq hq
        have z1 := (G1.out.ext hq).2
        have z2 := (G2.out.ext hq).2
        have z3 := (G3.out.ext hq).2
        go_simp
        first | done | with_reducible rfl
      simp only [Act.put, List.setIfInBounds_toArray, List.set_cons_zero, List.set_cons_succ]
      refine wpAnyH_ready (rs := [2]) (by kernel_rfl) (by simp) ?_
      refine AllReadyH.cons rfl (fun K hK => ?_) AllReadyH.nil
      go_simp
      refine (length_int64_any _ _ _ _ (by omega)).mono ?_
      rintro e w2 ⟨rfl, rfl⟩
      go_wp2_with fail
      refine hK.out _ _ (hHeld.trans (Ext.refl _)) (fun hHeld => ?_)
      clear hK K
      try simp only [Act.put, List.setIfInBounds_toArray, List.set_cons_zero, List.set_cons_succ]
      refine takeYesH 3 24 ?v39 rfl rfl (by kernel_rfl) (by kernel_rfl) (by kernel_rfl) (fun _ _ _ _ h => h) (by kernel_rfl) hHeld ?y39 ?r39
      case y39 => intro wq hq; go_simp; first | done | with_reducible rfl
      simp only [Act.put, List.setIfInBounds_toArray, List.set_cons_zero, List.set_cons_succ]
      refine wpAnyH_ready (rs := [4]) (by kernel_rfl) (by simp) ?_
      refine AllReadyH.cons rfl (fun K hK => ?_) AllReadyH.nil
      go_simp
      refine (within_any _ _ _ _).mono ?_
      rintro e w3 ⟨rfl, rfl⟩
      rw [HZ.out.2.1]
      go_wp2_with fail
      refine hK.out _ _ (hHeld.trans (Ext.refl _)) (fun hHeld => ?_)
      clear hK K
      try simp only [Act.put, List.setIfInBounds_toArray, List.set_cons_zero, List.set_cons_succ]
      refine takeYesH 5 26 ?v40 rfl rfl (by kernel_rfl) (by kernel_rfl) (by kernel_rfl) (fun _ _ _ _ h => h) (by kernel_rfl) hHeld ?y40 ?r40
      case y40 => intro wq hq; go_simp; first | done | with_reducible rfl
      simp only [Act.put, List.setIfInBounds_toArray, List.set_cons_zero, List.set_cons_succ]
      refine takeYesH 6 20 ?v41 rfl rfl (by kernel_rfl) (by kernel_rfl) (by kernel_rfl) (fun _ _ _ _ h => h) (by kernel_rfl) hHeld ?y41 ?r41
      case y41 => intro wq hq; go_simp; first | done | with_reducible rfl
      simp only [Act.put, List.setIfInBounds_toArray, List.set_cons_zero, List.set_cons_succ]
      refine wpAnyH_done (by kernel_rfl) ?_ _
      go_wp2
      go_ret2
      rw [HZ.out.2.2.1, HZ.out.2.2.2]
      exact RetTC.nil ((xb.trans e1).trans hHeld)
    · have HZ := Lib.hid (And.intro hc (And.intro hi (ok_yes hc (by rw [hln2]; exact hi))))
      have HK := Lib.hid (fun k (hk : k < n) => regB_klass hreg.1 (k := k) (by omega))
      clear hc hi hreg
      go_enter Tryz.func10, Tryz.ntmps10
      go_wp2
      refine wp_region_held_drew (S := Ext _) (by kernel_rfl) (Ext.refl _).drew (fun hHeld => ?_)
      generalize hwd : World.drew _ = wd at hHeld ⊢
      clear hwd
      refine takeYesH 0 11 ?v51 rfl rfl (by kernel_rfl) (by kernel_rfl) (by kernel_rfl) (fun _ _ _ _ h => h) (by kernel_rfl) hHeld ?y51 ?r51
      case y51 => intro wq hq; go_simp; first | done | with_reducible rfl
      simp only [Act.put, List.setIfInBounds_toArray, List.set_cons_zero, List.set_cons_succ]
      refine takeYesH 1 12 ?v52 rfl rfl (by kernel_rfl) (by kernel_rfl) (by kernel_rfl) (fun _ _ _ _ h => h) (by kernel_rfl) hHeld ?y52 ?r52
      case y52 =>
        intro wq hq
        have z1 := (H1.out.ext hq).2
        have z2 := (H2.out.ext hq).2
        have z3 := (H3.out.ext hq).2
        go_simp
        first | done | with_reducible rfl
      simp only [Act.put, List.setIfInBounds_toArray, List.set_cons_zero, List.set_cons_succ]
      refine takeYesH 3 14 ?v53 rfl rfl (by kernel_rfl) (by kernel_rfl) (by kernel_rfl) (fun _ _ _ _ h => h) (by kernel_rfl) hHeld ?y53 ?r53
      case y53 =>
        intro wq hq
        have z1 := (H1.out.ext hq).2
        have z2 := (H2.out.ext hq).2
        have z3 := (H3.out.ext hq).2
        go_simp
        first | done | with_reducible rfl
      simp only [Act.put, List.setIfInBounds_toArray, List.set_cons_zero, List.set_cons_succ]
      refine wpAnyH_ready (rs := [2]) (by kernel_rfl) (by simp) ?_
      refine AllReadyH.cons rfl (fun K hK => ?_) AllReadyH.nil
      go_simp
      refine (implIsClassTree_any _ _ _ _ _ (hr2.ext (xb.trans hHeld))).mono ?_
      rintro e w1 ⟨rfl, rfl⟩
      go_wp2_with fail
      refine hK.out _ _ (hHeld.trans (Ext.refl _)) (fun hHeld => ?_)
      clear hK K
      try simp only [Act.put, List.setIfInBounds_toArray, List.set_cons_zero, List.set_cons_succ]
      refine wpAnyH_ready (rs := [4]) (by kernel_rfl) (by simp) ?_
      refine AllReadyH.cons rfl (fun K hK => ?_) AllReadyH.nil
      go_simp
      refine (registerCode_any _ _ _ _ _ _ _ (hr.ext (xb.trans hHeld)) hcap (hmax.ext (xb.trans hHeld))).mono ?_
      rintro e w2 ⟨rfl, e1⟩
      rw [HZ.out.1]
      go_wp2_with fail
      refine hK.out _ _ (hHeld.trans e1) (fun hHeld => ?_)
      clear hK K
      try simp only [Act.put, List.setIfInBounds_toArray, List.set_cons_zero, List.set_cons_succ]
      refine takeYesH 5 10 ?v54 rfl rfl (by kernel_rfl) (by kernel_rfl) (by kernel_rfl) (fun _ _ _ _ h => h) (by kernel_rfl) hHeld ?y54 ?r54
      case y54 => intro wq hq; go_simp; first | done | with_reducible rfl
      simp only [Act.put, List.setIfInBounds_toArray, List.set_cons_zero, List.set_cons_succ]
      refine wpAnyH_done (by kernel_rfl) ?_ _
      have e1 := hHeld
      have G1 := Lib.hid (H1.out.ext e1)
      have G2 := Lib.hid (H2.out.ext e1)
      have G3 := Lib.hid (H3.out.ext e1)
      clear hHeld
      go_wp2
      refine wp_region_held_drew (S := Ext _) (by kernel_rfl) (Ext.refl _).drew (fun hHeld => ?_)
      generalize hwd : World.drew _ = wd at hHeld ⊢
      clear hwd
      refine takeYesH 0 21 ?v46 rfl rfl (by kernel_rfl) (by kernel_rfl) (by kernel_rfl) (fun _ _ _ _ h => h) (by kernel_rfl) hHeld ?y46 ?r46
      case y46 =>
        intro wq hq
        have z1 := (G1.out.ext hq).2
        have z2 := (G2.out.ext hq).2
        have z3 := (G3.out.ext hq).2
        go_simp
        first | done | with_reducible rfl
      simp only [Act.put, List.setIfInBounds_toArray, List.set_cons_zero, List.set_cons_succ]
      refine takeYesH 1 22 ?v47 rfl rfl (by kernel_rfl) (by kernel_rfl) (by kernel_rfl) (fun _ _ _ _ h => h) (by kernel_rfl) hHeld ?y47 ?r47
      case y47 =>
        intro wq hq
        have z1 := (G1.out.ext hq).2
        have z2 := (G2.out.ext hq).2
        have z3 := (G3.out.ext hq).2
        go_simp
        first | done | with_reducible rfl
      simp only [Act.put, List.setIfInBounds_toArray, List.set_cons_zero, List.set_cons_succ]
      refine wpAnyH_ready (rs := [2]) (by kernel_rfl) (by simp) ?_
      refine AllReadyH.cons rfl (fun K hK => ?_) AllReadyH.nil
      go_simp
      refine (length_int64_any _ _ _ _ (by omega)).mono ?_
      rintro e w2 ⟨rfl, rfl⟩
      go_wp2_with fail
      refine hK.out _ _ (hHeld.trans (Ext.refl _)) (fun hHeld => ?_)
      clear hK K
      try simp only [Act.put, List.setIfInBounds_toArray, List.set_cons_zero, List.set_cons_succ]
      refine takeYesH 3 24 ?v48 rfl rfl (by kernel_rfl) (by kernel_rfl) (by kernel_rfl) (fun _ _ _ _ h => h) (by kernel_rfl) hHeld ?y48 ?r48
      case y48 => intro wq hq; go_simp; first | done | with_reducible rfl
      simp only [Act.put, List.setIfInBounds_toArray, List.set_cons_zero, List.set_cons_succ]
      refine wpAnyH_ready (rs := [4]) (by kernel_rfl) (by simp) ?_
      refine AllReadyH.cons rfl (fun K hK => ?_) AllReadyH.nil
      go_simp
      refine (within_any _ _ _ _).mono ?_
      rintro e w3 ⟨rfl, rfl⟩
      rw [HZ.out.2.1]
      go_wp2_with fail
      refine hK.out _ _ (hHeld.trans (Ext.refl _)) (fun hHeld => ?_)
      clear hK K
      try simp only [Act.put, List.setIfInBounds_toArray, List.set_cons_zero, List.set_cons_succ]
      refine takeYesH 5 26 ?v49 rfl rfl (by kernel_rfl) (by kernel_rfl) (by kernel_rfl) (fun _ _ _ _ h => h) (by kernel_rfl) hHeld ?y49 ?r49
      case y49 => intro wq hq; go_simp; first | done | with_reducible rfl
      simp only [Act.put, List.setIfInBounds_toArray, List.set_cons_zero, List.set_cons_succ]
      refine takeYesH 6 20 ?v50 rfl rfl (by kernel_rfl) (by kernel_rfl) (by kernel_rfl) (fun _ _ _ _ h => h) (by kernel_rfl) hHeld ?y50 ?r50
      case y50 => intro wq hq; go_simp; first | done | with_reducible rfl
      simp only [Act.put, List.setIfInBounds_toArray, List.set_cons_zero, List.set_cons_succ]
      refine wpAnyH_done (by kernel_rfl) ?_ _
      have e3 := e1.trans hHeld
      go_wp2_with fail
      refine (codesKind_any _ _ _ xs (ofKind zs y cl) ⟨w.heap.size + 1 + 1, 0, none⟩ ⟨w.heap.size, 0, none⟩ ⟨w.heap.size + 1, 0, none⟩ _ (hr.ext (xb.trans e3)) (by omega) (fun w2 hx k hk r _ => kindClosure_any _ _ _ _ _ _ _ _ _ _ _ _ (HK.out k hk) htr (hr2.ext ((xb.trans e3).trans hx)) ((H3.out.ext e3).ext hx) ((H1.out.ext e3).ext hx) ((H2.out.ext e3).ext hx))).mono ?_
      rintro e w3 ⟨v, rfl, a1, n1, c1, rfl, hn1, o2, e2⟩
      go_wp2
      go_ret2
      rw [HZ.out.2.2.1, HZ.out.2.2.2, hln]
      exact ⟨_, rfl, a1, n1, c1, rfl, by omega, o2.mono (xb.trans e3).size, (xb.trans e3).trans e2⟩
  · have hb : (codeP xs (treeB zs) y == 0) = false := by simpa using hc
    have HZ := Lib.hid (ok_code (cl := cl) hc)
    clear hc
    go_enter Tryz.func10, Tryz.ntmps10
    go_wp2
    refine wp_region_held_drew (S := Ext _) (by kernel_rfl) (Ext.refl _).drew (fun hHeld => ?_)
    generalize hwd : World.drew _ = wd at hHeld ⊢
    clear hwd
    refine takeYesH 0 11 ?v55 rfl rfl (by kernel_rfl) (by kernel_rfl) (by kernel_rfl) (fun _ _ _ _ h => h) (by kernel_rfl) hHeld ?y55 ?r55
    case y55 => intro wq hq; go_simp; first | done | with_reducible rfl
    simp only [Act.put, List.setIfInBounds_toArray, List.set_cons_zero, List.set_cons_succ]
    refine takeYesH 1 12 ?v56 rfl rfl (by kernel_rfl) (by kernel_rfl) (by kernel_rfl) (fun _ _ _ _ h => h) (by kernel_rfl) hHeld ?y56 ?r56
    case y56 =>
      intro wq hq
      have z1 := (H1.out.ext hq).2
      have z2 := (H2.out.ext hq).2
      have z3 := (H3.out.ext hq).2
      go_simp
      first | done | with_reducible rfl
    simp only [Act.put, List.setIfInBounds_toArray, List.set_cons_zero, List.set_cons_succ]
    refine takeYesH 3 14 ?v57 rfl rfl (by kernel_rfl) (by kernel_rfl) (by kernel_rfl) (fun _ _ _ _ h => h) (by kernel_rfl) hHeld ?y57 ?r57
    case y57 =>
      intro wq hq
      have z1 := (H1.out.ext hq).2
      have z2 := (H2.out.ext hq).2
      have z3 := (H3.out.ext hq).2
      go_simp
      first | done | with_reducible rfl
    simp only [Act.put, List.setIfInBounds_toArray, List.set_cons_zero, List.set_cons_succ]
    refine wpAnyH_ready (rs := [2]) (by kernel_rfl) (by simp) ?_
    refine AllReadyH.cons rfl (fun K hK => ?_) AllReadyH.nil
    go_simp
    refine (implIsClassTree_any _ _ _ _ _ (hr2.ext (xb.trans hHeld))).mono ?_
    rintro e w1 ⟨rfl, rfl⟩
    go_wp2_with fail
    refine hK.out _ _ (hHeld.trans (Ext.refl _)) (fun hHeld => ?_)
    clear hK K
    try simp only [Act.put, List.setIfInBounds_toArray, List.set_cons_zero, List.set_cons_succ]
    refine wpAnyH_ready (rs := [4]) (by kernel_rfl) (by simp) ?_
    refine AllReadyH.cons rfl (fun K hK => ?_) AllReadyH.nil
    go_simp
    refine (registerCode_any _ _ _ _ _ _ _ (hr.ext (xb.trans hHeld)) hcap (hmax.ext (xb.trans hHeld))).mono ?_
    rintro e w2 ⟨rfl, e1⟩
    go_wp2_with fail
    refine hK.out _ _ (hHeld.trans e1) (fun hHeld => ?_)
    clear hK K
    try simp only [Act.put, List.setIfInBounds_toArray, List.set_cons_zero, List.set_cons_succ]
    refine takeYesH 5 10 ?v58 rfl rfl (by kernel_rfl) (by kernel_rfl) (by kernel_rfl) (fun _ _ _ _ h => h) (by kernel_rfl) hHeld ?y58 ?r58
    case y58 => intro wq hq; go_simp; first | done | with_reducible rfl
    simp only [Act.put, List.setIfInBounds_toArray, List.set_cons_zero, List.set_cons_succ]
    refine wpAnyH_done (by kernel_rfl) ?_ _
    go_wp2
    go_ret2
    rw [HZ.out.1, HZ.out.2]
    exact RetTC.nil (xb.trans hHeld)

set_option maxRecDepth 100000 in
set_option maxHeartbeats 2000000 in
theorem specPlacesOfKind_any (a a2 : Option Addr) (n c m c2 : Nat) (cl y : Int) (xs : List PlaceV) (zs : List Int) (w : World) (hr : RdPlace w a n xs) (hr2 : RdI w a2 m zs) :
    Calls Tryz.prog 11 #[.slice a n c, .slice a2 m c2, .int .i64 cl, .int .i64 y] w (RetTC w (okL xs zs cl y) (okC xs zs cl y)) := by
  have hln := hr.len
  have hln2 := hr2.len
  have hm2 := hr2.le
  have hwk : IntKind.i64.wrap ((m : Int) - 1) = (m : Int) - 1 := IntWalk.i64_in _ (by omega)
  cases hT : treeB zs
  · have hc1 : codeP xs (treeB zs) y = 1 := codeP_bad (.inr hT)
    have HZ := Lib.hid (And.intro hT (ok_code (cl := cl) (xs := xs) (zs := zs) (y := y) (by rw [hc1]; decide)))
    have HC := Lib.hid hc1
    clear hT hc1
    go_enter Tryz.func11, Tryz.ntmps11
    go_wp2_with fail
    refine (specIsClassTree_any _ _ _ _ _ hr2).mono ?_
    rintro e w1 ⟨rfl, rfl⟩
    rw [HZ.out.1]
    go_wp2
    go_ret2
    rw [HZ.out.2.1, HZ.out.2.2, HC.out]
    exact RetTC.nil (Ext.refl _)
  have htr := treeB_tree hT
  by_cases hc : codeP xs true y = 0
  · have hreg := codeP_zero hc
    have hlen := (regB_at hreg.1).2
    cases hi : inB cl 0 ((m : Int) - 1)
    · have HZ := Lib.hid (And.intro hc (And.intro hi (ok_range (xs := xs) (zs := zs) (y := y) (by rw [hT]; exact hc) (by rw [hln2]; exact hi))))
      have HT := Lib.hid hT
      clear hc hi hreg hT
      go_enter Tryz.func11, Tryz.ntmps11
      go_wp2_with fail
      refine (specIsClassTree_any _ _ _ _ _ hr2).mono ?_
      rintro e w1 ⟨rfl, rfl⟩
      rw [HT.out]
      go_wp2_with fail
      refine (l11Year_any _ _ _ _ _ _ hr).mono ?_
      rintro e w2 ⟨rfl, e1⟩
      rw [HZ.out.1]
      go_wp2_with fail
      refine (l01In_any _ _ _ _).mono ?_
      rintro e w3 ⟨rfl, rfl⟩
      rw [HZ.out.2.1]
      have e0 := e1
      go_wp2
      go_ret2
      rw [HZ.out.2.2.1, HZ.out.2.2.2]
      exact RetTC.nil e0
    · have HZ := Lib.hid (And.intro hc (And.intro hi (ok_yes (xs := xs) (zs := zs) (y := y) (by rw [hT]; exact hc) (by rw [hln2]; exact hi))))
      have HT := Lib.hid hT
      have HK := Lib.hid (fun k (hk : k < n) => regB_klass hreg.1 (k := k) (by omega))
      clear hc hi hreg hT
      obtain ⟨f, hr⟩ := hr
      go_enter Tryz.func11, Tryz.ntmps11
      go_wp2_with fail
      refine (specIsClassTree_any _ _ _ _ _ hr2).mono ?_
      rintro e w1 ⟨rfl, rfl⟩
      rw [HT.out]
      go_wp2_with fail
      refine (l11Year_any _ _ _ _ _ _ ⟨f, hr⟩).mono ?_
      rintro e w2 ⟨rfl, e0⟩
      rw [HZ.out.1]
      go_wp2_with fail
      refine (l01In_any _ _ _ _).mono ?_
      rintro e w3 ⟨rfl, rfl⟩
      rw [HZ.out.2.1]
      go_wp2
      go_loopw [11, 12] (fun v i wr => ∃ (k : Nat) (l : List ByteArray) (a1 : Option Addr) (c1 : Nat), k ≤ n ∧ i = .int .i64 k ∧ v = .slice a1 l.length c1 ∧ l = pickL (ofKind zs y cl) PlaceV.code xs k ∧ OwnG layS 9 wr w.heap.size a1 l.length c1 l ∧ Ext w wr) (fun _ i _ => n - (intOf i).toNat)
      case atStart => exact ⟨0, [], _, _, Nat.zero_le _, rfl, rfl, (pick_zero _ _ _).symm, OwnG.lit layS 9 _ e0.size [] #[] rfl (by simp), e0.alloc _⟩
      case round =>
        obtain ⟨k, l, a1, c1, hk, rfl, rfl, hl, ho, hx⟩ := hrel
        have HL := Lib.hid hl
        have hll : l.length ≤ k := by rw [hl]; exact pick_len _ _ _ _
        clear hl
        by_cases hlt : k < n
        · obtain ⟨b, o, rfl, hbl, hA⟩ := (hr.ext hx).at (by omega)
          obtain ⟨hc0, hc1, hc2, hc3, hc4⟩ := hA k hlt
          have hki : (k : Int) < n := by omega
          have h0 := HK.out k hlt
          have hget : xs[k]? = some (nthPlace xs k) := by rw [nthPlace_eq (by omega)]; exact List.getElem?_eq_getElem (by omega)
          clear hA
          have xb := (Ext.refl wr).alloc (.cells #[.string (nthPlace xs k).code, .int .i64 (nthPlace xs k).klass, .int .i64 (nthPlace xs k).from_, .int .i64 (nthPlace xs k).to_, .slice (f k).a (f k).n (f k).c] 67)
          have hxA := hx.trans xb
          have hoA := ho.ext xb
          cases hp : ofKind zs y cl (nthPlace xs k)
          · have HS := Lib.hid (pick_out (p := ofKind zs y cl) (f := PlaceV.code) hget hp)
            cases hy : inP y (nthPlace xs k)
            · have HY := Lib.hid hy
              clear hp hget hy
              go_wp2_with fail
              refine (l11Exists_any (nthPlace xs k) (f k) y _).mono ?_
              rintro e w2 ⟨rfl, e1⟩
              rw [HY.out]
              go_wp2
              go_roundw
              case rel => exact ⟨k + 1, l, a1, c1, by omega, by go_num, rfl, by rw [HS.out, ← HL.out], hoA.ext e1, hxA.trans e1⟩
              case measure => simp [intOf]; omega
            · by_cases hcl : (nthPlace xs k).klass < m
              · have hkd : hasI (kinds zs (nthPlace xs k).klass) cl = false := by rw [ofKind, hy, hln2, decide_eq_true hcl] at hp; exact hp
                obtain ⟨q, hq⟩ := Int.eq_ofNat_of_zero_le h0
                have hqm : q < m := by omega
                rw [hq] at hkd
                have HQ := Lib.hid hq
                clear hq
                have HY := Lib.hid (And.intro hy hkd)
                clear hp hget hy hkd
                go_wp2_with fail
                refine (l11Exists_any (nthPlace xs k) (f k) y _).mono ?_
                rintro e w2 ⟨rfl, e1⟩
                rw [HY.out.1]
                have b1 : _ = some (Value.int .i64 (nthPlace xs k).klass) := box_keptG e1 1
                go_wp2_with fail
                rw [HQ.out]
                refine (l10Kinds_any _ _ _ _ _ _ (hr2.ext (hxA.trans e1)) htr hqm).mono ?_
                rintro e w3 ⟨v, rfl, a3, n3, c3, rfl, o3, e3⟩
                go_wp2_with fail
                refine (l01Has_any _ _ _ _ _ _ o3.rd).mono ?_
                rintro e w4 ⟨rfl, rfl⟩
                rw [HY.out.2]
                go_wp2
                go_roundw
                case rel => exact ⟨k + 1, l, a1, c1, by omega, by go_num, rfl, by rw [HS.out, ← HL.out], (hoA.ext e1).ext e3, (hxA.trans e1).trans e3⟩
                case measure => simp [intOf]; omega
              · have HY := Lib.hid hy
                have hcd : decide ((nthPlace xs k).klass < (m : Int)) = false := decide_eq_false hcl
                clear hp hget hy
                go_wp2_with fail
                refine (l11Exists_any (nthPlace xs k) (f k) y _).mono ?_
                rintro e w2 ⟨rfl, e1⟩
                rw [HY.out]
                have b1 : _ = some (Value.int .i64 (nthPlace xs k).klass) := box_keptG e1 1
                go_wp2
                go_roundw
                case rel => exact ⟨k + 1, l, a1, c1, by omega, by go_num, rfl, by rw [HS.out, ← HL.out], hoA.ext e1, hxA.trans e1⟩
                case measure => simp [intOf]; omega
          · have HS := Lib.hid (pick_in (p := ofKind zs y cl) (f := PlaceV.code) hget hp)
            rw [ofKind, Bool.and_eq_true, Bool.and_eq_true, hln2, decide_eq_true_eq] at hp
            obtain ⟨hy, hcl, hkd⟩ := hp
            obtain ⟨q, hq⟩ := Int.eq_ofNat_of_zero_le h0
            have hqm : q < m := by omega
            rw [hq] at hkd
            have HQ := Lib.hid hq
            clear hq
            have HY := Lib.hid (And.intro hy hkd)
            clear hget hy hkd
            go_wp2_with fail
            refine (l11Exists_any (nthPlace xs k) (f k) y _).mono ?_
            rintro e w2 ⟨rfl, e1⟩
            rw [HY.out.1]
            have b1 : _ = some (Value.int .i64 (nthPlace xs k).klass) := box_keptG e1 1
            go_wp2_with fail
            rw [HQ.out]
            refine (l10Kinds_any _ _ _ _ _ _ (hr2.ext (hxA.trans e1)) htr hqm).mono ?_
            rintro e w3 ⟨v, rfl, a3, n3, c3, rfl, o3, e3⟩
            go_wp2_with fail
            refine (l01Has_any _ _ _ _ _ _ o3.rd).mono ?_
            rintro e w4 ⟨rfl, rfl⟩
            rw [HY.out.2]
            have b0 : _ = some (Value.string (nthPlace xs k).code) := box_keptG (e1.trans e3) 0
            have hoE := (hoA.ext e1).ext e3
            have hxE := (hxA.trans e1).trans e3
            clear e1 e3 ho hx o3 hoA hxA xb b1
            go_wp2_with (first | (at_builtin; refine wpList_appG layS rfl _ _ 27 9 rfl Tryz.underlying27 (.string ⟨#[]⟩) 16 Tryz.info_string rfl (by decide) w.heap.size _ l.length _ l rfl (hoE.alloc _) _ 1 _ [(nthPlace xs k).code] rfl (RdG.new1 layS _ _ _ rfl _) (by omega) (hxE.alloc _).size ?_; intro a2 c2 w2 hown hgrow; have hb2 := hxE.appG hoE (Nat.le_refl _) hgrow; have HO := Lib.hid hown; clear hown))
            go_roundw
            case rel => exact ⟨k + 1, l ++ [(nthPlace xs k).code], a2, c2, by omega, by go_num, by simp, by rw [HS.out, ← HL.out], by simpa using HO.out, hb2⟩
            case measure => simp [intOf]; omega
        · obtain rfl : k = n := by omega
          go_wp2
          go_ret2
          rw [HZ.out.2.2.1, HZ.out.2.2.2, hln, ← HL.out]
          refine ⟨_, rfl, a1, l.length, c1, rfl, by omega, ⟨ho, fun z hz => ?_⟩, hx⟩
          rw [HL.out] at hz
          obtain ⟨x, hx', _, rfl⟩ := pick_mem hz
          obtain ⟨j, hj, rfl⟩ := List.getElem_of_mem hx'
          have := (hr.2 j (by omega)).2.2.1
          rwa [nthPlace_eq hj] at this
  · have hb : (codeP xs true y == 0) = false := by simpa using hc
    have HZ := Lib.hid (ok_code (cl := cl) (xs := xs) (zs := zs) (y := y) (by rw [hT]; exact hc))
    have HT := Lib.hid hT
    clear hc hT
    go_enter Tryz.func11, Tryz.ntmps11
    go_wp2_with fail
    refine (specIsClassTree_any _ _ _ _ _ hr2).mono ?_
    rintro e w1 ⟨rfl, rfl⟩
    rw [HT.out]
    go_wp2_with fail
    refine (l11Year_any _ _ _ _ _ _ hr).mono ?_
    rintro e w2 ⟨rfl, e1⟩
    go_wp2
    go_ret2
    rw [HZ.out.1, HZ.out.2, HT.out]
    exact RetTC.nil e1

end Go.Proofs.YtjelmidkkpchkaaGreatDoor

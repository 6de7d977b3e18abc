/-
  The reference: l02Has, l02Build at spans of the call's own.
-/
import Derived.Test.YteencdgaldhanaaGreatDoorIT7
namespace Go.Proofs.YteencdgaldhanaaGreatDoor
open Go.RowKit

theorem has_step {zs : List SpanV} {k : Nat} (hk : k < zs.length) {y : Int} : hasS2 (zs.take (k + 1)) y = (hasS2 (zs.take k) y || inB y zs[k].from_ zs[k].to_) := by
  rw [List.take_succ_eq_append_getElem hk, hasS2, List.any_append]
  simp [hasS2, inB]
theorem has_mem {zs : List SpanV} {k : Nat} (hk : k < zs.length) {y : Int} (h : inB y zs[k].from_ zs[k].to_ = true) : hasS2 zs y = true := by
  rw [hasS2, List.any_eq_true]
  refine ⟨zs[k], List.getElem_mem hk, ?_⟩
  simpa [inB] using h

set_option maxRecDepth 100000 in
set_option maxHeartbeats 1000000 in
theorem l02Has_any (a : Option Addr) (n c : Nat) (zs : List SpanV) (y : Int) (w : World) (hr : RdG laySp w a n zs) :
    Calls Tryz.prog 80 #[.slice a n c, .int .i64 y] w fun e w' => e = .returned (.bool (hasS2 zs y)) ∧ Ext w w' := by
  have hm := hr.le
  have hln := hr.len
  go_enter Tryz.func80, Tryz.ntmps80
  go_wp2
  go_loopw [5] (fun i wr => ∃ (k : Nat), k ≤ n ∧ i = .int .i64 k ∧ hasS2 (zs.take k) y = false ∧ Ext w wr) (fun i _ => n - (intOf i).toNat)
  case atStart => exact ⟨0, Nat.zero_le _, rfl, rfl, Ext.refl _⟩
  case round =>
    obtain ⟨k, hk, rfl, hf, hx⟩ := hrel
    by_cases hlt : k < n
    · obtain ⟨b, o, rfl, hb, hc⟩ := (hr.ext hx).at (by omega)
      have hget : zs[k]? = some zs[k] := List.getElem?_eq_getElem (by omega)
      have d0 : wr.cell? ⟨b, o + k * 2, none⟩ = some (.int .i64 zs[k].from_) := by simpa [laySp] using hc k _ hget 0 _ rfl
      have d1 : wr.cell? ⟨b, o + k * 2 + 1, none⟩ = some (.int .i64 zs[k].to_) := by simpa [laySp, Nat.add_assoc] using hc k _ hget 1 _ rfl
      have hS := has_step (zs := zs) (k := k) (y := y) (by omega)
      have hT := has_mem (zs := zs) (k := k) (y := y) (by omega)
      have HF := Lib.hid hf
      clear hc hget hf
      generalize zs[k] = x at *
      obtain ⟨x0, x1⟩ := x
      have hki : (k : Int) < n := by omega
      simp only at d0 d1 hS hT
      cases hin : inB y x0 x1
      · rw [hin] at hS
        have HS := Lib.hid hS
        clear hS hT
        go_wp2
        refine wp_region_held_drew (S := Ext _) (by kernel_rfl) (Ext.refl _).drew (fun hHeld => ?_)
        generalize hwd : World.drew _ = wd at hHeld ⊢
        clear hwd
        refine takeYesH 0 12 ?v1 rfl rfl (by kernel_rfl) (by kernel_rfl) (by kernel_rfl) (fun _ _ _ _ h => h) (by kernel_rfl) hHeld ?y1 ?r1
        case y1 => intro wq hq; go_simp; first | done | with_reducible rfl
        simp only [Act.put, List.setIfInBounds_toArray, List.set_cons_zero, List.set_cons_succ]
        refine takeYesH 1 13 ?v2 rfl rfl (by kernel_rfl) (by kernel_rfl) (by kernel_rfl) (fun _ _ _ _ h => h) (by kernel_rfl) hHeld ?y2 ?r2
        case y2 => intro wq hq; go_simp; first | done | with_reducible rfl
        simp only [Act.put, List.setIfInBounds_toArray, List.set_cons_zero, List.set_cons_succ]
        refine takeYesH 2 14 ?v3 rfl rfl (by kernel_rfl) (by kernel_rfl) (by kernel_rfl) (fun _ _ _ _ h => h) (by kernel_rfl) hHeld ?y3 ?r3
        case y3 => intro wq hq; go_simp; first | done | with_reducible rfl
        simp only [Act.put, List.setIfInBounds_toArray, List.set_cons_zero, List.set_cons_succ]
        refine takeYesH 3 15 ?v4 rfl rfl (by kernel_rfl) (by kernel_rfl) (by kernel_rfl) (fun _ _ _ _ h => h) (by kernel_rfl) hHeld ?y4 ?r4
        case y4 => intro wq hq; go_simp; first | done | with_reducible rfl
        simp only [Act.put, List.setIfInBounds_toArray, List.set_cons_zero, List.set_cons_succ]
        refine takeYesH 4 16 ?v5 rfl rfl (by kernel_rfl) (by kernel_rfl) (by kernel_rfl) (fun _ _ _ _ h => h) (by kernel_rfl) hHeld ?y5 ?r5
        case y5 => intro wq hq; go_simp; first | done | with_reducible rfl
        simp only [Act.put, List.setIfInBounds_toArray, List.set_cons_zero, List.set_cons_succ]
        refine takeYesH 5 17 ?v6 rfl rfl (by kernel_rfl) (by kernel_rfl) (by kernel_rfl) (fun _ _ _ _ h => h) (by kernel_rfl) hHeld ?y6 ?r6
        case y6 =>
          intro wq hq
          have z0 := (Below.cell hq (p := ⟨b, o + k * 2, none⟩) hb).trans d0
          have z1 := (Below.cell hq (p := ⟨b, o + k * 2 + 1, none⟩) hb).trans d1
          go_simp
          first | done | with_reducible rfl
        simp only [Act.put, List.setIfInBounds_toArray, List.set_cons_zero, List.set_cons_succ]
        refine takeYesH 6 18 ?v7 rfl rfl (by kernel_rfl) (by kernel_rfl) (by kernel_rfl) (fun _ _ _ _ h => h) (by kernel_rfl) hHeld ?y7 ?r7
        case y7 => intro wq hq; go_simp; first | done | with_reducible rfl
        simp only [Act.put, List.setIfInBounds_toArray, List.set_cons_zero, List.set_cons_succ]
        refine takeYesH 7 19 ?v8 rfl rfl (by kernel_rfl) (by kernel_rfl) (by kernel_rfl) (fun _ _ _ _ h => h) (by kernel_rfl) hHeld ?y8 ?r8
        case y8 => intro wq hq; go_simp; first | done | with_reducible rfl
        simp only [Act.put, List.setIfInBounds_toArray, List.set_cons_zero, List.set_cons_succ]
        refine takeYesH 8 20 ?v9 rfl rfl (by kernel_rfl) (by kernel_rfl) (by kernel_rfl) (fun _ _ _ _ h => h) (by kernel_rfl) hHeld ?y9 ?r9
        case y9 => intro wq hq; go_simp; first | done | with_reducible rfl
        simp only [Act.put, List.setIfInBounds_toArray, List.set_cons_zero, List.set_cons_succ]
        refine takeYesH 9 21 ?v10 rfl rfl (by kernel_rfl) (by kernel_rfl) (by kernel_rfl) (fun _ _ _ _ h => h) (by kernel_rfl) hHeld ?y10 ?r10
        case y10 => intro wq hq; go_simp; first | done | with_reducible rfl
        simp only [Act.put, List.setIfInBounds_toArray, List.set_cons_zero, List.set_cons_succ]
        refine takeYesH 10 22 ?v11 rfl rfl (by kernel_rfl) (by kernel_rfl) (by kernel_rfl) (fun _ _ _ _ h => h) (by kernel_rfl) hHeld ?y11 ?r11
        case y11 =>
          intro wq hq
          have z0 := (Below.cell hq (p := ⟨b, o + k * 2, none⟩) hb).trans d0
          have z1 := (Below.cell hq (p := ⟨b, o + k * 2 + 1, none⟩) hb).trans d1
          go_simp
          first | done | with_reducible rfl
        simp only [Act.put, List.setIfInBounds_toArray, List.set_cons_zero, List.set_cons_succ]
        refine wpAnyH_ready (rs := [11]) (by kernel_rfl) (by simp) ?_
        refine AllReadyH.cons rfl (fun K hK => ?_) AllReadyH.nil
        go_simp
        refine (l01In_any _ _ _ _).mono ?_
        rintro e w4 ⟨rfl, rfl⟩
        rw [hin]
        go_wp2_with fail
        refine hK.out _ _ (hHeld.trans (Ext.refl _)) (fun hHeld => ?_)
        clear hK K
        try simp only [Act.put, List.setIfInBounds_toArray, List.set_cons_zero, List.set_cons_succ]
        refine wpAnyH_done (by kernel_rfl) ?_ _
        go_wp2
        refine ⟨⟨k + 1, by omega, by go_num, by rw [HS.out, HF.out]; rfl, hx.trans hHeld⟩, ?_⟩
        simp only [intOf]
        omega
      · have HT := Lib.hid (hT hin)
        clear hS hT
        go_wp2
        refine wp_region_held_drew (S := Ext _) (by kernel_rfl) (Ext.refl _).drew (fun hHeld => ?_)
        generalize hwd : World.drew _ = wd at hHeld ⊢
        clear hwd
        refine takeYesH 0 12 ?v12 rfl rfl (by kernel_rfl) (by kernel_rfl) (by kernel_rfl) (fun _ _ _ _ h => h) (by kernel_rfl) hHeld ?y12 ?r12
        case y12 => intro wq hq; go_simp; first | done | with_reducible rfl
        simp only [Act.put, List.setIfInBounds_toArray, List.set_cons_zero, List.set_cons_succ]
        refine takeYesH 1 13 ?v13 rfl rfl (by kernel_rfl) (by kernel_rfl) (by kernel_rfl) (fun _ _ _ _ h => h) (by kernel_rfl) hHeld ?y13 ?r13
        case y13 => intro wq hq; go_simp; first | done | with_reducible rfl
        simp only [Act.put, List.setIfInBounds_toArray, List.set_cons_zero, List.set_cons_succ]
        refine takeYesH 2 14 ?v14 rfl rfl (by kernel_rfl) (by kernel_rfl) (by kernel_rfl) (fun _ _ _ _ h => h) (by kernel_rfl) hHeld ?y14 ?r14
        case y14 => intro wq hq; go_simp; first | done | with_reducible rfl
        simp only [Act.put, List.setIfInBounds_toArray, List.set_cons_zero, List.set_cons_succ]
        refine takeYesH 3 15 ?v15 rfl rfl (by kernel_rfl) (by kernel_rfl) (by kernel_rfl) (fun _ _ _ _ h => h) (by kernel_rfl) hHeld ?y15 ?r15
        case y15 => intro wq hq; go_simp; first | done | with_reducible rfl
        simp only [Act.put, List.setIfInBounds_toArray, List.set_cons_zero, List.set_cons_succ]
        refine takeYesH 4 16 ?v16 rfl rfl (by kernel_rfl) (by kernel_rfl) (by kernel_rfl) (fun _ _ _ _ h => h) (by kernel_rfl) hHeld ?y16 ?r16
        case y16 => intro wq hq; go_simp; first | done | with_reducible rfl
        simp only [Act.put, List.setIfInBounds_toArray, List.set_cons_zero, List.set_cons_succ]
        refine takeYesH 5 17 ?v17 rfl rfl (by kernel_rfl) (by kernel_rfl) (by kernel_rfl) (fun _ _ _ _ h => h) (by kernel_rfl) hHeld ?y17 ?r17
        case y17 =>
          intro wq hq
          have z0 := (Below.cell hq (p := ⟨b, o + k * 2, none⟩) hb).trans d0
          have z1 := (Below.cell hq (p := ⟨b, o + k * 2 + 1, none⟩) hb).trans d1
          go_simp
          first | done | with_reducible rfl
        simp only [Act.put, List.setIfInBounds_toArray, List.set_cons_zero, List.set_cons_succ]
        refine takeYesH 6 18 ?v18 rfl rfl (by kernel_rfl) (by kernel_rfl) (by kernel_rfl) (fun _ _ _ _ h => h) (by kernel_rfl) hHeld ?y18 ?r18
        case y18 => intro wq hq; go_simp; first | done | with_reducible rfl
        simp only [Act.put, List.setIfInBounds_toArray, List.set_cons_zero, List.set_cons_succ]
        refine takeYesH 7 19 ?v19 rfl rfl (by kernel_rfl) (by kernel_rfl) (by kernel_rfl) (fun _ _ _ _ h => h) (by kernel_rfl) hHeld ?y19 ?r19
        case y19 => intro wq hq; go_simp; first | done | with_reducible rfl
        simp only [Act.put, List.setIfInBounds_toArray, List.set_cons_zero, List.set_cons_succ]
        refine takeYesH 8 20 ?v20 rfl rfl (by kernel_rfl) (by kernel_rfl) (by kernel_rfl) (fun _ _ _ _ h => h) (by kernel_rfl) hHeld ?y20 ?r20
        case y20 => intro wq hq; go_simp; first | done | with_reducible rfl
        simp only [Act.put, List.setIfInBounds_toArray, List.set_cons_zero, List.set_cons_succ]
        refine takeYesH 9 21 ?v21 rfl rfl (by kernel_rfl) (by kernel_rfl) (by kernel_rfl) (fun _ _ _ _ h => h) (by kernel_rfl) hHeld ?y21 ?r21
        case y21 => intro wq hq; go_simp; first | done | with_reducible rfl
        simp only [Act.put, List.setIfInBounds_toArray, List.set_cons_zero, List.set_cons_succ]
        refine takeYesH 10 22 ?v22 rfl rfl (by kernel_rfl) (by kernel_rfl) (by kernel_rfl) (fun _ _ _ _ h => h) (by kernel_rfl) hHeld ?y22 ?r22
        case y22 =>
          intro wq hq
          have z0 := (Below.cell hq (p := ⟨b, o + k * 2, none⟩) hb).trans d0
          have z1 := (Below.cell hq (p := ⟨b, o + k * 2 + 1, none⟩) hb).trans d1
          go_simp
          first | done | with_reducible rfl
        simp only [Act.put, List.setIfInBounds_toArray, List.set_cons_zero, List.set_cons_succ]
        refine wpAnyH_ready (rs := [11]) (by kernel_rfl) (by simp) ?_
        refine AllReadyH.cons rfl (fun K hK => ?_) AllReadyH.nil
        go_simp
        refine (l01In_any _ _ _ _).mono ?_
        rintro e w4 ⟨rfl, rfl⟩
        rw [hin]
        go_wp2_with fail
        refine hK.out _ _ (hHeld.trans (Ext.refl _)) (fun hHeld => ?_)
        clear hK K
        try simp only [Act.put, List.setIfInBounds_toArray, List.set_cons_zero, List.set_cons_succ]
        refine wpAnyH_done (by kernel_rfl) ?_ _
        go_wp2
        go_ret
        exact ⟨ret_bool HT.out.symm, hx.trans hHeld⟩
    · obtain rfl : k = n := by omega
      have e1 : zs.take k = zs := List.take_of_length_le (by omega)
      rw [e1] at hf
      have HF := Lib.hid hf
      clear hf
      go_wp2
      go_ret
      exact ⟨ret_bool HF.out.symm, hx⟩

/-- What is built, year by year. -/
def bldS (zs : List SpanV) (k : Nat) : List SpanV := unionS (yearsL zs k)
theorem bld_out {zs : List SpanV} {k : Nat} (h : hasS2 zs ((k : Int) - 3000) = false) : bldS zs (k + 1) = bldS zs k := by rw [bldS, years_out h]; rfl
theorem bld_len (zs : List SpanV) (k : Nat) : (bldS zs k).length ≤ k := by
  have h1 := union_len (yearsL zs k)
  have h2 : (yearsL zs k).length ≤ k := by
    simp only [yearsL, List.length_map]
    have := List.length_filter_le (fun (i : Nat) => hasS2 zs ((i : Int) - 3000)) (List.range k)
    simpa using this
  rw [bldS]; omega
theorem bld_nil {zs : List SpanV} {k : Nat} (h : hasS2 zs ((k : Int) - 3000) = true) (he : bldS zs k = []) : bldS zs (k + 1) = [⟨(k : Int) - 3000, (k : Int) - 3000⟩] := by
  rw [bldS, years_in h, union_snoc, show unionS (yearsL zs k) = [] from he, addS_nil]
theorem bld_more {zs : List SpanV} {k : Nat} (h : hasS2 zs ((k : Int) - 3000) = true) {i : List SpanV} {z : SpanV} (he : bldS zs k = i ++ [z]) (hz : z.to_ = (k : Int) - 3000 - 1) : bldS zs (k + 1) = i ++ [⟨z.from_, (k : Int) - 3000⟩] := by
  rw [bldS, years_in h, union_snoc, show unionS (yearsL zs k) = i ++ [z] from he, addS_snoc, if_pos (by simp only; omega)]
  simp only
  rw [show max z.to_ ((k : Int) - 3000) = (k : Int) - 3000 by omega]
theorem bld_new {zs : List SpanV} {k : Nat} (h : hasS2 zs ((k : Int) - 3000) = true) {i : List SpanV} {z : SpanV} (he : bldS zs k = i ++ [z]) (hz : z.to_ ≠ (k : Int) - 3000 - 1) : bldS zs (k + 1) = i ++ [z] ++ [⟨(k : Int) - 3000, (k : Int) - 3000⟩] := by
  have hl := years_last zs k z (by rw [show unionS (yearsL zs k) = i ++ [z] from he]; simp)
  rw [bldS, years_in h, union_snoc, show unionS (yearsL zs k) = i ++ [z] from he, addS_snoc, if_neg (by simp only; omega)]
theorem bld_bd {zs : List SpanV} {k : Nat} {i : List SpanV} {z : SpanV} (he : bldS zs k = i ++ [z]) : -3000 ≤ z.from_ ∧ z.from_ ≤ z.to_ ∧ z.to_ < (k : Int) - 3000 := by
  have hl := years_last zs k z (by rw [show unionS (yearsL zs k) = i ++ [z] from he]; simp)
  omega

set_option maxRecDepth 100000 in
set_option maxHeartbeats 2000000 in
theorem l02Build_any (a a' : Option Addr) (n c c' : Nat) (zs : List SpanV) (w : World) (hr : RdG laySp w a n zs) (hr2 : RdG laySp w a' 0 []) :
    Calls Tryz.prog 43 #[.slice a n c, .slice a' 0 c', .bool true] w fun e w' => ∃ v, e = .returned v ∧ NewG laySp 60 w w' (bldS zs 6001) v := by
  go_enter Tryz.func43, Tryz.ntmps43
  go_wp2
  go_loopw [7, 8] (fun v y wr => ∃ (k : Nat) (a1 : Option Addr) (c1 : Nat), k ≤ 6001 ∧ y = .int .i64 ((k : Int) - 3000) ∧ v = .slice a1 (bldS zs k).length c1 ∧ OwnG laySp 60 wr w.heap.size a1 (bldS zs k).length c1 (bldS zs k) ∧ Ext w wr) (fun _ y _ => (3001 - intOf y).toNat)
  case atStart => exact ⟨0, _, _, by decide, rfl, rfl, OwnG.lit laySp 60 w (Nat.le_refl _) [] #[] rfl (by simp), (Ext.refl _).alloc _⟩
  case round =>
    obtain ⟨k, a1, c1, hk, rfl, rfl, ho, hx⟩ := hrel
    by_cases hlt : k < 6001
    · have hki : (k : Int) - 3000 ≤ 3000 := by omega
      have hbl := bld_len zs k
      have HO := Lib.hid (And.intro ho hx)
      have h2 : hasS2 [] ((k : Int) - 3000) = false := rfl
      clear ho hx
      cases hin : hasS2 zs ((k : Int) - 3000)
      · have HB := Lib.hid (bld_out hin)
        go_wp2_with fail
        refine (l02Has_any _ _ _ _ _ _ (hr.ext HO.out.2)).mono ?_
        rintro e w1 ⟨rfl, x1⟩
        rw [hin]
        go_wp2_with fail
        refine (l02Has_any _ _ _ _ _ _ (hr.ext (HO.out.2.trans x1))).mono ?_
        rintro e w2 ⟨rfl, x2⟩
        rw [hin]
        go_wp2_with fail
        refine (l02Has_any _ _ _ _ _ _ (hr2.ext (HO.out.2.trans (x1.trans x2)))).mono ?_
        rintro e w3 ⟨rfl, x3⟩
        rw [h2]
        go_wp2
        go_roundw
        case rel => exact ⟨k + 1, a1, c1, by omega, by congr 1; omega, by rw [HB.out], by rw [HB.out]; exact HO.out.1.ext ((x1.trans x2).trans x3), HO.out.2.trans ((x1.trans x2).trans x3)⟩
        case measure => simp only [intOf]; omega
      · have HI := Lib.hid hin
        go_wp2_with fail
        refine (l02Has_any _ _ _ _ _ _ (hr.ext HO.out.2)).mono ?_
        rintro e w1 ⟨rfl, x1⟩
        rw [hin]
        go_wp2_with fail
        refine (l02Has_any _ _ _ _ _ _ (hr2.ext (HO.out.2.trans x1))).mono ?_
        rintro e w2 ⟨rfl, x2⟩
        rw [h2]
        go_wp2_with fail
        refine (l02Has_any _ _ _ _ _ _ (hr.ext (HO.out.2.trans (x1.trans x2)))).mono ?_
        rintro e w3 ⟨rfl, x3⟩
        rw [hin]
        have HX := Lib.hid (And.intro (HO.out.1.ext ((x1.trans x2).trans x3)) (HO.out.2.trans ((x1.trans x2).trans x3)))
        clear hin x1 x2 x3 HO
        have HY := Lib.hid (And.intro (bld_nil HI.out) (And.intro (fun i z => bld_more (i := i) (z := z) HI.out) (And.intro (fun i z => bld_new (i := i) (z := z) HI.out) (fun i z => bld_bd (zs := zs) (k := k) (i := i) (z := z)))))
        generalize bldS zs k = us at *
        rcases List.eq_nil_or_concat us with rfl | ⟨i, z, rfl⟩
        · simp only [List.length_nil]
          go_wp2_with (first | (at_builtin; refine wpList_appG laySp rfl _ _ 24 60 rfl Tryz.underlying24 (.agg #[.int .i64 0, .int .i64 0]) 16 Tryz.info_Span rfl (by decide) w.heap.size _ 0 _ [] rfl (HX.out.1.alloc _) _ 1 _ [⟨(k : Int) - 3000, (k : Int) - 3000⟩] rfl (RdG.new1 laySp _ _ _ rfl _) (by omega) (by have := HX.out.2.size; simp; omega) ?_; intro a3 c3 w4 hown hgrow; have HM := Lib.hid (And.intro hown (Ext.appG HX.out.2 HX.out.1 (Nat.le_refl _) hgrow)); clear hown hgrow))
          go_roundw
          case rel => exact ⟨k + 1, a3, c3, by omega, by congr 1; omega, by rw [HY.out.1 rfl]; rfl, by rw [HY.out.1 rfl]; simpa using HM.out.1, HM.out.2⟩
          case measure => simp only [intOf]; omega
        · rw [List.concat_eq_append] at *
          obtain ⟨m, hm⟩ : ∃ m, m = i.length := ⟨_, rfl⟩
          have hlm : (i ++ [z]).length = m + 1 := by rw [List.length_append, hm]; rfl
          rw [hlm] at HX hbl ⊢
          obtain ⟨ho1, hx1⟩ := HX.out
          obtain ⟨z0, z1⟩ := z
          have hzb := HY.out.2.2.2 i ⟨z0, z1⟩ rfl
          simp only at hzb
          obtain ⟨g, rfl⟩ := own_some ho1 (by omega)
          have hgz : (i ++ [(⟨z0, z1⟩ : SpanV)])[m]? = some ⟨z0, z1⟩ := by rw [hm]; simp
          have hgl : g < w3.heap.size := (ho1.1.lt g rfl).2
          have hge : w.heap.size ≤ g := (ho1.1.lt g rfl).1
          have f1 := ho1.1.frozenAt (m * 2 + 1)
          obtain ⟨b', o', e, _, hc⟩ := ho1.rd.at (by omega)
          cases e
          have c1' : w3.cell? ⟨g, m * 2 + 1, none⟩ = some (.int .i64 z1) := by simpa [laySp] using hc m _ hgz 1 _ rfl
          have hset : (i ++ [(⟨z0, z1⟩ : SpanV)]).set m ⟨z0, (k : Int) - 3000⟩ = i ++ [⟨z0, (k : Int) - 3000⟩] := by rw [hm, List.set_append_right _ _ (Nat.le_refl _)]; simp
          have hown := ho1.setAt (k := m) (j := 1) (x := ⟨z0, z1⟩) (x' := ⟨z0, (k : Int) - 3000⟩) (u := .int .i64 ((k : Int) - 3000)) hgz (by decide) rfl
          rw [hset, show laySp.sz = 2 from rfl] at hown
          have HM := Lib.hid (And.intro hown.1 (hx1.setCell (p := ⟨g, m * 2 + 1, none⟩) hge (.int .i64 ((k : Int) - 3000))))
          have HL := Lib.hid hm
          clear hc ho1 hx1 hown hset hgz hm
          have hm0 : (0 : Int) < (m : Int) + 1 := by omega
          have hmn : (m : Int) < (m : Int) + 1 := by omega
          have hmv : IntKind.i64.wrap (m : Int) = m := IntWalk.i64_in _ (by omega)
          have hyw : IntKind.i64.wrap ((k : Int) - 3000 - 1) = (k : Int) - 3000 - 1 := IntWalk.i64_in _ (by omega)
          by_cases hz : z1 = (k : Int) - 3000 - 1
          · have hadd := Lib.hid (HY.out.2.1 i ⟨z0, z1⟩ rfl hz)
            have hzz : (z1 == (k : Int) - 3000 - 1) = true := by rw [hz]; simp
            clear hz
            go_wp2
            go_roundw
            case rel => exact ⟨k + 1, some ⟨g, 0, none⟩, c1, by omega, by congr 1; omega, by rw [hadd.out]; simp [HL.out], by rw [hadd.out]; simpa [HL.out] using HM.out.1, HM.out.2⟩
            case measure => simp only [intOf]; omega
          · have hadd := Lib.hid (HY.out.2.2.1 i ⟨z0, z1⟩ rfl hz)
            have hzz : (z1 == (k : Int) - 3000 - 1) = false := by simpa using hz
            clear hz HM
            go_wp2_with (first | (at_builtin; refine wpList_appG laySp rfl _ _ 24 60 rfl Tryz.underlying24 (.agg #[.int .i64 0, .int .i64 0]) 16 Tryz.info_Span rfl (by decide) w.heap.size _ (m + 1) _ (i ++ [⟨z0, z1⟩]) rfl (HX.out.1.alloc _) _ 1 _ [⟨(k : Int) - 3000, (k : Int) - 3000⟩] rfl (RdG.new1 laySp _ _ _ rfl _) (by omega) (by have := HX.out.2.size; simp; omega) ?_; intro a3 c3 w4 hown hgrow; have HM := Lib.hid (And.intro hown (Ext.appG HX.out.2 HX.out.1 (Nat.le_refl _) hgrow)); clear hown hgrow))
            go_roundw
            case rel => exact ⟨k + 1, a3, c3, by omega, by congr 1; omega, by rw [hadd.out]; simp [HL.out], by rw [hadd.out]; simpa [HL.out] using HM.out.1, HM.out.2⟩
            case measure => simp only [intOf]; omega
    · obtain rfl : k = 6001 := by omega
      have HO := Lib.hid (And.intro ho hx)
      clear ho hx
      go_wp2
      go_ret
      exact ⟨_, rfl, _, _, _, rfl, HO.out.1, HO.out.2⟩

end Go.Proofs.YteencdgaldhanaaGreatDoor

/-
  The union of spans: the program.
-/
import Derived.Test.YteencdgaldhanaaGreatDoorM2
namespace Go.Proofs.YteencdgaldhanaaGreatDoor
open Go.RowKit

def bdS (zs : List SpanV) : Prop := ∀ z ∈ zs, (-3000 ≤ z.from_ ∧ z.from_ ≤ 3000) ∧ -3000 ≤ z.to_ ∧ z.to_ ≤ 3000
theorem addS_bd {l : List SpanV} {s : SpanV} (h : bdS l) (hs : (-3000 ≤ s.from_ ∧ s.from_ ≤ 3000) ∧ -3000 ≤ s.to_ ∧ s.to_ ≤ 3000) : bdS (addS l s) := by
  rcases List.eq_nil_or_concat l with rfl | ⟨i, z, rfl⟩
  · rw [addS_nil]; intro x hx; rw [List.mem_singleton.1 hx]; exact hs
  · rw [List.concat_eq_append] at h ⊢
    have hz := h z (by simp)
    rw [addS_snoc]
    split
    · intro x hx
      rcases List.mem_append.1 hx with m | e
      · exact h x (List.mem_append_left _ m)
      · rw [List.mem_singleton.1 e]; simp only; omega
    · intro x hx
      rcases List.mem_append.1 hx with m | e
      · exact h x m
      · rw [List.mem_singleton.1 e]; exact hs
theorem union_bd : ∀ {zs : List SpanV}, bdS zs → bdS (unionS zs) := by
  intro zs
  have : ∀ (zs l : List SpanV), bdS l → bdS zs → bdS (zs.foldl addS l) := by
    intro zs
    induction zs with
    | nil => exact fun l h _ => h
    | cons x xs ih => exact fun l h hz => ih _ (addS_bd h (hz x (List.mem_cons_self ..))) fun z h => hz z (List.mem_cons_of_mem _ h)
  exact fun h => this zs [] (fun z h => by cases h) h

set_option maxRecDepth 100000 in
set_option maxHeartbeats 2000000 in
theorem unionI_any (a : Option Addr) (n c : Nat) (zs : List SpanV) (w : World) (ho : OwnG laySp 60 w 0 a n c zs) (hn : n ≤ 12) (hb : bdS zs) :
    Calls Tryz.prog 47 #[.slice a n c] w fun e w' => ∃ v, e = .returned v ∧ ∃ ys, ys.Perm zs ∧ upS ys ∧ NewG laySp 60 w w' (unionS ys) v := by
  obtain ⟨hat, rfl⟩ := spAt_of ho
  go_enter Tryz.func47, Tryz.ntmps47
  go_wp2_with fail
  refine (callsIn_wide.1 (spVals_in Fence.wide 1 trivial rfl a _ c w)).mono ?_
  rintro e w1 ⟨rfl, rfl⟩
  have xb : Ext w (w.alloc (.cells #[.slice a zs.length c] 24)) := (Ext.refl w).alloc _
  go_wp2_with fail
  refine (sortedSp_any w.heap.size a c zs hn _ (by simp) (by rw [World.cell?_alloc_at _ _ _ _ rfl]; rfl) ((hat.below xb) |> fun h => by
    rcases h with h | ⟨b, off, e, hb, hc⟩
    · exact .inl h
    · exact .inr ⟨b, off, e, by simp; omega, hc⟩)).mono ?_
  rintro e w2 ⟨v, rfl, ys, hp, hu, a2, n2, c2, rfl, o2, x2⟩
  have hl2 := o2.rd.len
  have hlp := hp.length_eq
  have hbd : bdS ys := fun z hz => hb z (hp.mem_iff.1 hz)
  have HU := Lib.hid (And.intro hp (And.intro hu hbd))
  have X2 := xb.trans x2
  have r2 := o2.rd
  clear hp hu o2 x2 hbd
  go_wp2
  go_loopw [4, 13] (fun v i wr => ∃ (k : Nat) (a1 : Option Addr) (c1 : Nat), k ≤ n2 ∧ i = .int .i64 k ∧ v = .slice a1 (unionS (ys.take k)).length c1 ∧ OwnG laySp 60 wr w2.heap.size a1 (unionS (ys.take k)).length c1 (unionS (ys.take k)) ∧ Ext w2 wr) (fun _ i _ => n2 - (intOf i).toNat)
  case atStart => exact ⟨0, none, 0, Nat.zero_le _, rfl, rfl, OwnG.isNil _ _ _ _, Ext.refl _⟩
  case round =>
    obtain ⟨k, a1, c1, hk, rfl, rfl, ho1, hx1⟩ := hrel
    by_cases hlt : k < n2
    · obtain ⟨b, o, rfl, hbl, hc⟩ := (r2.ext hx1).at (by omega)
      have hget : ys[k]? = some ys[k] := List.getElem?_eq_getElem (by omega)
      have hsn : unionS (ys.take (k + 1)) = addS (unionS (ys.take k)) ys[k] := by rw [List.take_succ_eq_append_getElem (by omega), union_snoc]
      have hbk := HU.out.2.2 ys[k] (List.getElem_mem (by omega))
      have hub : bdS (unionS (ys.take k)) := union_bd fun z hz => HU.out.2.2 z (List.mem_of_mem_take hz)
      have hul := union_len (ys.take k)
      rw [List.length_take] at hul
      have d0 : wr.cell? ⟨b, o + k * 2, none⟩ = some (.int .i64 ys[k].from_) := by simpa [laySp] using hc k _ hget 0 _ rfl
      have d1 : wr.cell? ⟨b, o + k * 2 + 1, none⟩ = some (.int .i64 ys[k].to_) := by simpa [laySp, Nat.add_assoc] using hc k _ hget 1 _ rfl
      clear hc
      generalize ys[k] = x at *
      generalize unionS (ys.take k) = us at *
      obtain ⟨x0, x1⟩ := x
      simp only at d0 d1 hbk
      have HS := Lib.hid hsn
      have HO := Lib.hid (And.intro ho1 hx1)
      have hki : (k : Int) < n2 := by omega
      clear hsn hget
      rcases List.eq_nil_or_concat us with rfl | ⟨i, z, rfl⟩
      · clear ho1 hx1
        simp only [List.length_nil]
        go_wp2
        refine wp_region_held_drew (S := Ext (wr.alloc (.cells #[.int .i64 x0, .int .i64 x1] 60))) (by kernel_rfl) (Ext.refl _).drew (fun hHeld => ?_)
        generalize hwd : World.drew _ = wd at hHeld ⊢
        clear hwd
        refine takeYesH 0 19 ?v1 rfl rfl (by kernel_rfl) (by kernel_rfl) (by kernel_rfl) (fun _ _ _ _ h => h) (by kernel_rfl) hHeld ?y1 ?r1
        case y1 => intro wq hq; go_simp; first | done | with_reducible rfl
        simp only [Act.put, List.setIfInBounds_toArray, List.set_cons_zero, List.set_cons_succ]
        refine takeYesH 1 20 ?v2 rfl rfl (by kernel_rfl) (by kernel_rfl) (by kernel_rfl) (fun _ _ _ _ h => h) (by kernel_rfl) hHeld ?y2 ?r2
        case y2 => intro wq hq; go_simp; first | done | with_reducible rfl
        simp only [Act.put, List.setIfInBounds_toArray, List.set_cons_zero, List.set_cons_succ]
        refine takeYesH 2 21 ?v3 rfl rfl (by kernel_rfl) (by kernel_rfl) (by kernel_rfl) (fun _ _ _ _ h => h) (by kernel_rfl) hHeld ?y3 ?r3
        case y3 => intro wq hq; go_simp; first | done | with_reducible rfl
        simp only [Act.put, List.setIfInBounds_toArray, List.set_cons_zero, List.set_cons_succ]
        refine takeNoH 3 22 rfl rfl (by kernel_rfl) (by kernel_rfl) (by kernel_rfl) (fun _ _ _ _ h => h) (by kernel_rfl) hHeld ?_
        simp only [Act.put, List.setIfInBounds_toArray, List.set_cons_zero, List.set_cons_succ]
        refine takeNoH 4 23 rfl rfl (by kernel_rfl) (by kernel_rfl) (by kernel_rfl) (fun _ _ _ _ h => h) (by kernel_rfl) hHeld ?_
        simp only [Act.put, List.setIfInBounds_toArray, List.set_cons_zero, List.set_cons_succ]
        refine takeNoH 5 24 rfl rfl (by kernel_rfl) (by kernel_rfl) (by kernel_rfl) (fun _ _ _ _ h => h) (by kernel_rfl) hHeld ?_
        simp only [Act.put, List.setIfInBounds_toArray, List.set_cons_zero, List.set_cons_succ]
        refine takeNoH 6 25 rfl rfl (by kernel_rfl) (by kernel_rfl) (by kernel_rfl) (fun _ _ _ _ h => h) (by kernel_rfl) hHeld ?_
        simp only [Act.put, List.setIfInBounds_toArray, List.set_cons_zero, List.set_cons_succ]
        refine takeNoH 7 26 rfl rfl (by kernel_rfl) (by kernel_rfl) (by kernel_rfl) (fun _ _ _ _ h => h) (by kernel_rfl) hHeld ?_
        simp only [Act.put, List.setIfInBounds_toArray, List.set_cons_zero, List.set_cons_succ]
        refine takeNoH 8 27 rfl rfl (by kernel_rfl) (by kernel_rfl) (by kernel_rfl) (fun _ _ _ _ h => h) (by kernel_rfl) hHeld ?_
        simp only [Act.put, List.setIfInBounds_toArray, List.set_cons_zero, List.set_cons_succ]
        refine takeNoH 9 28 rfl rfl (by kernel_rfl) (by kernel_rfl) (by kernel_rfl) (fun _ _ _ _ h => h) (by kernel_rfl) hHeld ?_
        simp only [Act.put, List.setIfInBounds_toArray, List.set_cons_zero, List.set_cons_succ]
        refine takeNoH 10 29 rfl rfl (by kernel_rfl) (by kernel_rfl) (by kernel_rfl) (fun _ _ _ _ h => h) (by kernel_rfl) hHeld ?_
        simp only [Act.put, List.setIfInBounds_toArray, List.set_cons_zero, List.set_cons_succ]
        refine takeNoH 11 30 rfl rfl (by kernel_rfl) (by kernel_rfl) (by kernel_rfl) (fun _ _ _ _ h => h) (by kernel_rfl) hHeld ?_
        simp only [Act.put, List.setIfInBounds_toArray, List.set_cons_zero, List.set_cons_succ]
        refine takeNoH 12 31 rfl rfl (by kernel_rfl) (by kernel_rfl) (by kernel_rfl) (fun _ _ _ _ h => h) (by kernel_rfl) hHeld ?_
        simp only [Act.put, List.setIfInBounds_toArray, List.set_cons_zero, List.set_cons_succ]
        refine takeYesH 13 32 ?v4 rfl rfl (by kernel_rfl) (by kernel_rfl) (by kernel_rfl) (fun _ _ _ _ h => h) (by kernel_rfl) hHeld ?y4 ?r4
        case y4 => intro wq hq; go_simp; first | done | with_reducible rfl
        simp only [Act.put, List.setIfInBounds_toArray, List.set_cons_zero, List.set_cons_succ]
        refine wpAnyH_done (by kernel_rfl) ?_ _
        have hxw : Ext wr wd := ((Ext.refl wr).alloc _).trans hHeld
        have b0 : wd.cell? ⟨wr.heap.size, 0, none⟩ = some (.int .i64 x0) := box_keptG hHeld 0
        have b1 : wd.cell? ⟨wr.heap.size, 1, none⟩ = some (.int .i64 x1) := box_keptG hHeld 1
        have HN := Lib.hid (And.intro (HO.out.1.ext hxw) (And.intro (fun {w3 : World} {ob : Obj} (hgrow : (wd.alloc ob).grownBy w3 _) => Ext.appG (HO.out.2.trans hxw) (HO.out.1.ext hxw) (Nat.le_refl _) hgrow) (HO.out.2.trans hxw)))
        clear hHeld hxw
        go_wp2_with (first | (at_builtin; refine wpList_appG laySp rfl _ _ 24 60 rfl Tryz.underlying24 (.agg #[.int .i64 0, .int .i64 0]) 16 Tryz.info_Span rfl (by decide) w2.heap.size _ 0 _ [] rfl (HN.out.1.alloc _) _ 1 _ [⟨x0, x1⟩] rfl (RdG.new1 laySp _ _ _ rfl _) (by omega) (by have := HN.out.2.2.size; simp; omega) ?_; intro a3 c3 w3 hown hgrow; have HM := Lib.hid (And.intro hown (HN.out.2.1 hgrow)); clear hown hgrow))
        go_roundw
        case rel => exact ⟨k + 1, a3, c3, by omega, by go_num, by rw [HS.out, addS_nil]; rfl, by rw [HS.out, addS_nil]; simpa using HM.out.1, HM.out.2⟩
        case measure => simp only [intOf]; omega
      · rw [List.concat_eq_append] at *
        obtain ⟨m, hm⟩ : ∃ m, m = i.length := ⟨_, rfl⟩
        have hlm : (i ++ [z]).length = m + 1 := by rw [List.length_append, hm]; rfl
        rw [hlm] at ho1 hul ⊢
        have HO := Lib.hid (And.intro ho1 hx1)
        have hzb := hub z (by simp)
        obtain ⟨z0, z1⟩ := z
        simp only at hzb
        obtain ⟨g, rfl⟩ := own_some ho1 (by omega)
        have hgz : (i ++ [(⟨z0, z1⟩ : SpanV)])[m]? = some ⟨z0, z1⟩ := by rw [hm]; simp
        have hgl : g < wr.heap.size := (ho1.1.lt g rfl).2
        obtain ⟨b', o', e, _, hc⟩ := ho1.rd.at (by omega)
        cases e
        have c1' : wr.cell? ⟨g, m * 2 + 1, none⟩ = some (.int .i64 z1) := by simpa [laySp] using hc m _ hgz 1 _ rfl
        have HL := Lib.hid hm
        clear hc ho1 hx1 hm
        have hm0 : (0 : Int) < (m : Int) + 1 := by omega
        have hmn : (m : Int) < (m : Int) + 1 := by omega
        have hmv : IntKind.i64.wrap (m : Int) = m := IntWalk.i64_in _ (by omega)
        have hmz : IntKind.i64.wrap (z1 + 1) = z1 + 1 := IntWalk.i64_in _ (by omega)
        by_cases ht : x0 ≤ z1 + 1
        · go_wp2
          refine wp_region_held_drew (S := Ext (wr.alloc (.cells #[.int .i64 x0, .int .i64 x1] 60))) (by kernel_rfl) (Ext.refl _).drew (fun hHeld => ?_)
          generalize hwd : World.drew _ = wd at hHeld ⊢
          clear hwd
          refine takeYesH 0 19 ?v5 rfl rfl (by kernel_rfl) (by kernel_rfl) (by kernel_rfl) (fun _ _ _ _ h => h) (by kernel_rfl) hHeld ?y5 ?r5
          case y5 => intro wq hq; go_simp; first | done | with_reducible rfl
          simp only [Act.put, List.setIfInBounds_toArray, List.set_cons_zero, List.set_cons_succ]
          refine takeYesH 1 20 ?v6 rfl rfl (by kernel_rfl) (by kernel_rfl) (by kernel_rfl) (fun _ _ _ _ h => h) (by kernel_rfl) hHeld ?y6 ?r6
          case y6 => intro wq hq; go_simp; first | done | with_reducible rfl
          simp only [Act.put, List.setIfInBounds_toArray, List.set_cons_zero, List.set_cons_succ]
          refine takeYesH 2 21 ?v7 rfl rfl (by kernel_rfl) (by kernel_rfl) (by kernel_rfl) (fun _ _ _ _ h => h) (by kernel_rfl) hHeld ?y7 ?r7
          case y7 => intro wq hq; go_simp; first | done | with_reducible rfl
          simp only [Act.put, List.setIfInBounds_toArray, List.set_cons_zero, List.set_cons_succ]
          refine takeYesH 3 22 ?v8 rfl rfl (by kernel_rfl) (by kernel_rfl) (by kernel_rfl) (fun _ _ _ _ h => h) (by kernel_rfl) hHeld ?y8 ?r8
          case y8 => intro wq hq; go_simp; first | done | with_reducible rfl
          simp only [Act.put, List.setIfInBounds_toArray, List.set_cons_zero, List.set_cons_succ]
          refine takeYesH 4 23 ?v9 rfl rfl (by kernel_rfl) (by kernel_rfl) (by kernel_rfl) (fun _ _ _ _ h => h) (by kernel_rfl) hHeld ?y9 ?r9
          case y9 =>
            intro wq hq
            have z0 : wq.cell? ⟨wr.heap.size, 0, none⟩ = some (.int .i64 x0) := box_keptG hq 0
            have z1 : wq.cell? ⟨wr.heap.size, 1, none⟩ = some (.int .i64 x1) := box_keptG hq 1
            have z2 := (Below.cell (((Ext.refl wr).alloc _).trans hq) (p := ⟨g, m * 2 + 1, none⟩) hgl).trans c1'
            go_simp
            first | done | with_reducible rfl
          simp only [Act.put, List.setIfInBounds_toArray, List.set_cons_zero, List.set_cons_succ]
          refine takeYesH 5 24 ?v10 rfl rfl (by kernel_rfl) (by kernel_rfl) (by kernel_rfl) (fun _ _ _ _ h => h) (by kernel_rfl) hHeld ?y10 ?r10
          case y10 => intro wq hq; go_simp; first | done | with_reducible rfl
          simp only [Act.put, List.setIfInBounds_toArray, List.set_cons_zero, List.set_cons_succ]
          refine takeYesH 6 25 ?v11 rfl rfl (by kernel_rfl) (by kernel_rfl) (by kernel_rfl) (fun _ _ _ _ h => h) (by kernel_rfl) hHeld ?y11 ?r11
          case y11 => intro wq hq; go_simp; first | done | with_reducible rfl
          simp only [Act.put, List.setIfInBounds_toArray, List.set_cons_zero, List.set_cons_succ]
          refine takeYesH 7 26 ?v12 rfl rfl (by kernel_rfl) (by kernel_rfl) (by kernel_rfl) (fun _ _ _ _ h => h) (by kernel_rfl) hHeld ?y12 ?r12
          case y12 => intro wq hq; go_simp; first | done | with_reducible rfl
          simp only [Act.put, List.setIfInBounds_toArray, List.set_cons_zero, List.set_cons_succ]
          refine takeYesH 8 27 ?v13 rfl rfl (by kernel_rfl) (by kernel_rfl) (by kernel_rfl) (fun _ _ _ _ h => h) (by kernel_rfl) hHeld ?y13 ?r13
          case y13 => intro wq hq; go_simp; first | done | with_reducible rfl
          simp only [Act.put, List.setIfInBounds_toArray, List.set_cons_zero, List.set_cons_succ]
          refine takeYesH 9 28 ?v14 rfl rfl (by kernel_rfl) (by kernel_rfl) (by kernel_rfl) (fun _ _ _ _ h => h) (by kernel_rfl) hHeld ?y14 ?r14
          case y14 => intro wq hq; go_simp; first | done | with_reducible rfl
          simp only [Act.put, List.setIfInBounds_toArray, List.set_cons_zero, List.set_cons_succ]
          refine takeYesH 10 29 ?v15 rfl rfl (by kernel_rfl) (by kernel_rfl) (by kernel_rfl) (fun _ _ _ _ h => h) (by kernel_rfl) hHeld ?y15 ?r15
          case y15 =>
            intro wq hq
            have z0 : wq.cell? ⟨wr.heap.size, 0, none⟩ = some (.int .i64 x0) := box_keptG hq 0
            have z1 : wq.cell? ⟨wr.heap.size, 1, none⟩ = some (.int .i64 x1) := box_keptG hq 1
            have z2 := (Below.cell (((Ext.refl wr).alloc _).trans hq) (p := ⟨g, m * 2 + 1, none⟩) hgl).trans c1'
            go_simp
            first | done | with_reducible rfl
          simp only [Act.put, List.setIfInBounds_toArray, List.set_cons_zero, List.set_cons_succ]
          refine takeYesH 11 30 ?v16 rfl rfl (by kernel_rfl) (by kernel_rfl) (by kernel_rfl) (fun _ _ _ _ h => h) (by kernel_rfl) hHeld ?y16 ?r16
          case y16 => intro wq hq; go_simp; first | done | with_reducible rfl
          simp only [Act.put, List.setIfInBounds_toArray, List.set_cons_zero, List.set_cons_succ]
          refine takeYesH 12 31 ?v17 rfl rfl (by kernel_rfl) (by kernel_rfl) (by kernel_rfl) (fun _ _ _ _ h => h) (by kernel_rfl) hHeld ?y17 ?r17
          case y17 => intro wq hq; go_simp; first | done | with_reducible rfl
          simp only [Act.put, List.setIfInBounds_toArray, List.set_cons_zero, List.set_cons_succ]
          refine takeYesH 13 32 ?v18 rfl rfl (by kernel_rfl) (by kernel_rfl) (by kernel_rfl) (fun _ _ _ _ h => h) (by kernel_rfl) hHeld ?y18 ?r18
          case y18 => intro wq hq; go_simp; first | done | with_reducible rfl
          simp only [Act.put, List.setIfInBounds_toArray, List.set_cons_zero, List.set_cons_succ]
          refine wpAnyH_done (by kernel_rfl) ?_ _
          have hxw : Ext wr wd := ((Ext.refl wr).alloc _).trans hHeld
          have b0 : wd.cell? ⟨wr.heap.size, 0, none⟩ = some (.int .i64 x0) := box_keptG hHeld 0
          have b1 : wd.cell? ⟨wr.heap.size, 1, none⟩ = some (.int .i64 x1) := box_keptG hHeld 1
          have hadd : addS (i ++ [⟨z0, z1⟩]) ⟨x0, x1⟩ = i ++ [⟨z0, max z1 x1⟩] := by rw [addS_snoc, if_pos ht]
          have hset : (i ++ [(⟨z0, z1⟩ : SpanV)]).set m ⟨z0, max z1 x1⟩ = i ++ [⟨z0, max z1 x1⟩] := by rw [HL.out, List.set_append_right _ _ (Nat.le_refl _)]; simp
          have hown := (HO.out.1.ext hxw).setAt (k := m) (j := 1) (x := ⟨z0, z1⟩) (x' := ⟨z0, max z1 x1⟩) (u := .int .i64 (max z1 x1)) hgz (by decide) rfl
          rw [hset, show laySp.sz = 2 from rfl] at hown
          have f1 := (HO.out.1.ext hxw).1.frozenAt (m * 2 + 1)
          have c2 := (Below.cell hxw (p := ⟨g, m * 2 + 1, none⟩) hgl).trans c1'
          have hge : w2.heap.size ≤ g := ((HO.out.1.ext hxw).1.lt g rfl).1
          have HM := Lib.hid (And.intro hown ((HO.out.2.trans hxw).setCell (p := ⟨g, m * 2 + 1, none⟩) hge (.int .i64 (max z1 x1))))
          clear hown hHeld hxw
          go_wp2
          go_region
          all_goals
            go_wp2
            go_roundw
            case rel => exact ⟨k + 1, some ⟨g, 0, none⟩, c1, by omega, by go_num, by rw [HS.out, hadd]; simp [HL.out], by rw [HS.out, hadd]; simpa [HL.out] using HM.out.1.1.ext (Ext.refl _).drew, HM.out.2.trans (Ext.refl _).drew⟩
            case measure => simp only [intOf]; omega
        · go_wp2
          refine wp_region_held_drew (S := Ext (wr.alloc (.cells #[.int .i64 x0, .int .i64 x1] 60))) (by kernel_rfl) (Ext.refl _).drew (fun hHeld => ?_)
          generalize hwd : World.drew _ = wd at hHeld ⊢
          clear hwd
          refine takeYesH 0 19 ?v19 rfl rfl (by kernel_rfl) (by kernel_rfl) (by kernel_rfl) (fun _ _ _ _ h => h) (by kernel_rfl) hHeld ?y19 ?r19
          case y19 => intro wq hq; go_simp; first | done | with_reducible rfl
          simp only [Act.put, List.setIfInBounds_toArray, List.set_cons_zero, List.set_cons_succ]
          refine takeYesH 1 20 ?v20 rfl rfl (by kernel_rfl) (by kernel_rfl) (by kernel_rfl) (fun _ _ _ _ h => h) (by kernel_rfl) hHeld ?y20 ?r20
          case y20 => intro wq hq; go_simp; first | done | with_reducible rfl
          simp only [Act.put, List.setIfInBounds_toArray, List.set_cons_zero, List.set_cons_succ]
          refine takeYesH 2 21 ?v21 rfl rfl (by kernel_rfl) (by kernel_rfl) (by kernel_rfl) (fun _ _ _ _ h => h) (by kernel_rfl) hHeld ?y21 ?r21
          case y21 => intro wq hq; go_simp; first | done | with_reducible rfl
          simp only [Act.put, List.setIfInBounds_toArray, List.set_cons_zero, List.set_cons_succ]
          refine takeYesH 3 22 ?v22 rfl rfl (by kernel_rfl) (by kernel_rfl) (by kernel_rfl) (fun _ _ _ _ h => h) (by kernel_rfl) hHeld ?y22 ?r22
          case y22 => intro wq hq; go_simp; first | done | with_reducible rfl
          simp only [Act.put, List.setIfInBounds_toArray, List.set_cons_zero, List.set_cons_succ]
          refine takeYesH 4 23 ?v23 rfl rfl (by kernel_rfl) (by kernel_rfl) (by kernel_rfl) (fun _ _ _ _ h => h) (by kernel_rfl) hHeld ?y23 ?r23
          case y23 =>
            intro wq hq
            have z0 : wq.cell? ⟨wr.heap.size, 0, none⟩ = some (.int .i64 x0) := box_keptG hq 0
            have z1 : wq.cell? ⟨wr.heap.size, 1, none⟩ = some (.int .i64 x1) := box_keptG hq 1
            have z2 := (Below.cell (((Ext.refl wr).alloc _).trans hq) (p := ⟨g, m * 2 + 1, none⟩) hgl).trans c1'
            go_simp
            first | done | with_reducible rfl
          simp only [Act.put, List.setIfInBounds_toArray, List.set_cons_zero, List.set_cons_succ]
          refine takeYesH 5 24 ?v24 rfl rfl (by kernel_rfl) (by kernel_rfl) (by kernel_rfl) (fun _ _ _ _ h => h) (by kernel_rfl) hHeld ?y24 ?r24
          case y24 => intro wq hq; go_simp; first | done | with_reducible rfl
          simp only [Act.put, List.setIfInBounds_toArray, List.set_cons_zero, List.set_cons_succ]
          refine takeYesH 6 25 ?v25 rfl rfl (by kernel_rfl) (by kernel_rfl) (by kernel_rfl) (fun _ _ _ _ h => h) (by kernel_rfl) hHeld ?y25 ?r25
          case y25 => intro wq hq; go_simp; first | done | with_reducible rfl
          simp only [Act.put, List.setIfInBounds_toArray, List.set_cons_zero, List.set_cons_succ]
          refine takeYesH 7 26 ?v26 rfl rfl (by kernel_rfl) (by kernel_rfl) (by kernel_rfl) (fun _ _ _ _ h => h) (by kernel_rfl) hHeld ?y26 ?r26
          case y26 => intro wq hq; go_simp; first | done | with_reducible rfl
          simp only [Act.put, List.setIfInBounds_toArray, List.set_cons_zero, List.set_cons_succ]
          refine takeYesH 8 27 ?v27 rfl rfl (by kernel_rfl) (by kernel_rfl) (by kernel_rfl) (fun _ _ _ _ h => h) (by kernel_rfl) hHeld ?y27 ?r27
          case y27 => intro wq hq; go_simp; first | done | with_reducible rfl
          simp only [Act.put, List.setIfInBounds_toArray, List.set_cons_zero, List.set_cons_succ]
          refine takeYesH 9 28 ?v28 rfl rfl (by kernel_rfl) (by kernel_rfl) (by kernel_rfl) (fun _ _ _ _ h => h) (by kernel_rfl) hHeld ?y28 ?r28
          case y28 => intro wq hq; go_simp; first | done | with_reducible rfl
          simp only [Act.put, List.setIfInBounds_toArray, List.set_cons_zero, List.set_cons_succ]
          refine takeYesH 10 29 ?v29 rfl rfl (by kernel_rfl) (by kernel_rfl) (by kernel_rfl) (fun _ _ _ _ h => h) (by kernel_rfl) hHeld ?y29 ?r29
          case y29 =>
            intro wq hq
            have z0 : wq.cell? ⟨wr.heap.size, 0, none⟩ = some (.int .i64 x0) := box_keptG hq 0
            have z1 : wq.cell? ⟨wr.heap.size, 1, none⟩ = some (.int .i64 x1) := box_keptG hq 1
            have z2 := (Below.cell (((Ext.refl wr).alloc _).trans hq) (p := ⟨g, m * 2 + 1, none⟩) hgl).trans c1'
            go_simp
            first | done | with_reducible rfl
          simp only [Act.put, List.setIfInBounds_toArray, List.set_cons_zero, List.set_cons_succ]
          refine takeYesH 11 30 ?v30 rfl rfl (by kernel_rfl) (by kernel_rfl) (by kernel_rfl) (fun _ _ _ _ h => h) (by kernel_rfl) hHeld ?y30 ?r30
          case y30 => intro wq hq; go_simp; first | done | with_reducible rfl
          simp only [Act.put, List.setIfInBounds_toArray, List.set_cons_zero, List.set_cons_succ]
          refine takeYesH 12 31 ?v31 rfl rfl (by kernel_rfl) (by kernel_rfl) (by kernel_rfl) (fun _ _ _ _ h => h) (by kernel_rfl) hHeld ?y31 ?r31
          case y31 => intro wq hq; go_simp; first | done | with_reducible rfl
          simp only [Act.put, List.setIfInBounds_toArray, List.set_cons_zero, List.set_cons_succ]
          refine takeYesH 13 32 ?v32 rfl rfl (by kernel_rfl) (by kernel_rfl) (by kernel_rfl) (fun _ _ _ _ h => h) (by kernel_rfl) hHeld ?y32 ?r32
          case y32 => intro wq hq; go_simp; first | done | with_reducible rfl
          simp only [Act.put, List.setIfInBounds_toArray, List.set_cons_zero, List.set_cons_succ]
          refine wpAnyH_done (by kernel_rfl) ?_ _
          have hxw : Ext wr wd := ((Ext.refl wr).alloc _).trans hHeld
          have b0 : wd.cell? ⟨wr.heap.size, 0, none⟩ = some (.int .i64 x0) := box_keptG hHeld 0
          have b1 : wd.cell? ⟨wr.heap.size, 1, none⟩ = some (.int .i64 x1) := box_keptG hHeld 1
          have HN := Lib.hid (And.intro (HO.out.1.ext hxw) (And.intro (fun {w3 : World} {ob : Obj} (hgrow : (wd.alloc ob).grownBy w3 _) => Ext.appG (HO.out.2.trans hxw) (HO.out.1.ext hxw) (Nat.le_refl _) hgrow) (HO.out.2.trans hxw)))
          clear hHeld hxw
          have hadd : addS (i ++ [⟨z0, z1⟩]) ⟨x0, x1⟩ = i ++ [⟨z0, z1⟩] ++ [⟨x0, x1⟩] := by rw [addS_snoc, if_neg (show ¬ x0 ≤ z1 + 1 by omega)]
          go_wp2_with (first | (at_builtin; refine wpList_appG laySp rfl _ _ 24 60 rfl Tryz.underlying24 (.agg #[.int .i64 0, .int .i64 0]) 16 Tryz.info_Span rfl (by decide) w2.heap.size _ (m + 1) _ (i ++ [⟨z0, z1⟩]) rfl (HN.out.1.alloc _) _ 1 _ [⟨x0, x1⟩] rfl (RdG.new1 laySp _ _ _ rfl _) (by omega) (by have := HN.out.2.2.size; simp; omega) ?_; intro a3 c3 w3 hown hgrow; have HM := Lib.hid (And.intro hown (HN.out.2.1 hgrow)); clear hown hgrow))
          go_roundw
          case rel => exact ⟨k + 1, a3, c3, by omega, by go_num, by rw [HS.out, hadd]; simp [HL.out], by rw [HS.out, hadd]; simpa [HL.out] using HM.out.1, HM.out.2⟩
          case measure => simp only [intOf]; omega
    · obtain rfl : k = n2 := by omega
      have HO := Lib.hid (And.intro ho1 hx1)
      clear ho1 hx1
      have e1 : ys.take k = ys := List.take_of_length_le (by omega)
      go_wp2
      go_ret
      refine ⟨_, rfl, ys, HU.out.1, HU.out.2.1, ?_⟩
      rw [e1] at HO ⊢
      exact ⟨_, _, _, rfl, HO.out.1.mono X2.size, X2.trans HO.out.2⟩

end Go.Proofs.YteencdgaldhanaaGreatDoor

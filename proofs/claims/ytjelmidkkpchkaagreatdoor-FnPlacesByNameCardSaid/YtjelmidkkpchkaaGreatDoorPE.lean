/-
  The reference's AddPlace: whatever it hands back is a register in new memory.
-/
import Derived.Test.YtjelmidkkpchkaaGreatDoorPD
import Derived.Test.YtjelmidkkpchkaaGreatDoorINS
import Derived.Test.YtjelmidkkpchkaaGreatDoorRG
namespace Go.Proofs.YtjelmidkkpchkaaGreatDoor
open Go.RowKit

/-- A register in new memory, or none. -/
def RetAdd (w : World) (e : Ending) (w' : World) : Prop := ∃ v code, e = .returned (.tuple #[v, .int .i64 code]) ∧ (code ≠ 0 ∨ code = 0 ∧ ∃ (a : Option Addr) (n c : Nat) (qs : List Pl), v = .slice a n c ∧ 0 < n ∧ n ≤ 10 ∧ OwnPl w' w.heap.size a n c qs) ∧ Ext w w'

set_option maxRecDepth 100000 in
set_option maxHeartbeats 8000000 in
theorem addPlace_any (b o n c : Nat) (ps : List Pl) (p : Pl) (w : World) (hr : RdG layPl w (some ⟨b, o, none⟩) n ps) (hcap : n ≤ c) (hp : ∀ q ∈ p :: ps, OkP w 0 q) (hb : b < w.heap.size) :
    Calls Tryz.prog 114 #[.slice (some ⟨b, o, none⟩) n c, valPlace p.x p.r] w (RetAdd w) := by
  have hm := hr.le
  have hln := hr.len
  have xb := (Ext.refl w).alloc (.cells (cellsPl p) 67)
  have HB := Lib.hid (Box.new w (cellsPl p) 67)
  have HP := Lib.hid hp
  have hpc := (hp p (List.mem_cons_self ..)).2.1
  rw [valPlace]
  clear hp
  go_enter Tryz.func114, Tryz.ntmps114
  go_wp2_with fail
  refine (specIsRegister_any _ _ _ _ _ ((rdPlace hr (fun q hq => HP.out q (List.mem_cons_of_mem _ hq))).ext xb)).mono ?_
  rintro e w1 ⟨rfl, e1⟩
  have X := xb.trans e1
  have hB1 := HB.out.ext e1
  have k0 : _ = some (Value.string p.x.code) := hB1.cell 0
  have k1 : _ = some (Value.int .i64 p.x.klass) := hB1.cell 1
  have k2 : _ = some (Value.int .i64 p.x.from_) := hB1.cell 2
  have k3 : _ = some (Value.int .i64 p.x.to_) := hB1.cell 3
  have k4 : _ = some (Value.slice p.r.a p.r.n p.r.c) := hB1.cell 4
  have HB1 := Lib.hid hB1
  clear hB1
  cases hR : regB (ps.map Pl.x)
  · go_wp2
    go_ret2
    exact ⟨_, _, rfl, .inl (by decide), X⟩
  have hR10 := (regB_at hR).2
  rw [List.length_map] at hR10
  have HR0 := Lib.hid hR
  clear hR
  go_wp2_with (first | (go_at_call 141; rw [HR0.out]) | fail)
  refine (specIsPlace_any p.x p.r _ (((HP.out p (List.mem_cons_self ..)).at).ext X)).mono ?_
  rintro e w2 ⟨rfl, e2⟩
  cases hQ : placeB p.x
  · go_wp2
    go_ret2
    exact ⟨_, _, rfl, .inl (by decide), X.trans e2⟩
  have HQ0 := Lib.hid hQ
  clear hQ k0 k1 k2 k3 k4
  replace X := X.trans e2
  have hB2 := HB1.out.ext e2
  have hbx2 : w.heap.size < w2.heap.size := hB2.lt
  have k0' : _ = some (Value.string p.x.code) := hB2.cell 0
  have k1' : _ = some (Value.int .i64 p.x.klass) := hB2.cell 1
  have k2' : _ = some (Value.int .i64 p.x.from_) := hB2.cell 2
  have k3' : _ = some (Value.int .i64 p.x.to_) := hB2.cell 3
  have k4' : _ = some (Value.slice p.r.a p.r.n p.r.c) := hB2.cell 4
  have HK2 := Lib.hid (And.intro k0' (And.intro k1' (And.intro k2' (And.intro k3' k4'))))
  clear hB2 k0' k1' k2' k3' k4' HB1
  have hr2 := hr.ext X
  have hbl2 := Nat.lt_of_lt_of_le hb X.size
  go_wp2
  go_loopw [6] (fun i wr => ∃ k : Nat, k ≤ n ∧ i = .int .i64 k ∧ Ext w2 wr) (fun i _ => n - (intOf i).toNat)
  case atStart => exact ⟨0, Nat.zero_le _, rfl, Ext.refl _⟩
  case round =>
    obtain ⟨k, hk, rfl, hx⟩ := hrel
    have hbx := Nat.lt_of_lt_of_le hbx2 hx.size
    have k0 := (Below.cell hx (p := ⟨w.heap.size, 0, none⟩) hbx2).trans HK2.out.1
    have k1 := (Below.cell hx (p := ⟨w.heap.size, 1, none⟩) hbx2).trans HK2.out.2.1
    have k2 := (Below.cell hx (p := ⟨w.heap.size, 2, none⟩) hbx2).trans HK2.out.2.2.1
    have k3 := (Below.cell hx (p := ⟨w.heap.size, 3, none⟩) hbx2).trans HK2.out.2.2.2.1
    have k4 := (Below.cell hx (p := ⟨w.heap.size, 4, none⟩) hbx2).trans HK2.out.2.2.2.2
    by_cases hlt : k < n
    · have hget := List.getElem?_eq_getElem (l := ps) (i := k) (by omega)
      have hbl := Nat.lt_of_lt_of_le hbl2 hx.size
      have hck : wr.cell? ⟨b, o + k * 5, none⟩ = some (.string ps[k].x.code) := by
        obtain ⟨b', o', e', _, hA⟩ := (hr2.ext hx).at (by omega)
        cases e'
        exact (pl_cells hA hget).1
      have hki : (k : Int) < n := by omega
      clear hget
      generalize ps[k].x.code = kc at hck
      cases hl : Op.bytesLess kc.toList p.x.code.toList
      · go_wp2
        refine wp_region_held_drew (S := Ext wr) (by kernel_rfl) (Ext.refl _).drew (fun hHeld => ?_)
        generalize hwd : World.drew _ = wd at hHeld ⊢
        clear hwd
        refine takeYesH 0 16 ?v15 rfl rfl (by kernel_rfl) (by kernel_rfl) (by kernel_rfl) (fun _ _ _ _ h => h) (by kernel_rfl) hHeld ?y15 ?r15
        case y15 => intro wq hq; go_simp; first | done | with_reducible rfl
        simp only [Act.put, List.setIfInBounds_toArray, List.set_cons_zero, List.set_cons_succ]
        refine takeYesH 1 17 ?v16 rfl rfl (by kernel_rfl) (by kernel_rfl) (by kernel_rfl) (fun _ _ _ _ h => h) (by kernel_rfl) hHeld ?y16 ?r16
        case y16 => intro wq hq; go_simp; first | done | with_reducible rfl
        simp only [Act.put, List.setIfInBounds_toArray, List.set_cons_zero, List.set_cons_succ]
        refine takeYesH 2 18 ?v17 rfl rfl (by kernel_rfl) (by kernel_rfl) (by kernel_rfl) (fun _ _ _ _ h => h) (by kernel_rfl) hHeld ?y17 ?r17
        case y17 => intro wq hq; go_simp; first | done | with_reducible rfl
        simp only [Act.put, List.setIfInBounds_toArray, List.set_cons_zero, List.set_cons_succ]
        refine takeYesH 3 19 ?v18 rfl rfl (by kernel_rfl) (by kernel_rfl) (by kernel_rfl) (fun _ _ _ _ h => h) (by kernel_rfl) hHeld ?y18 ?r18
        case y18 => intro wq hq; go_simp; first | done | with_reducible rfl
        simp only [Act.put, List.setIfInBounds_toArray, List.set_cons_zero, List.set_cons_succ]
        refine takeYesH 4 20 ?v19 rfl rfl (by kernel_rfl) (by kernel_rfl) (by kernel_rfl) (fun _ _ _ _ h => h) (by kernel_rfl) hHeld ?y19 ?r19
        case y19 => intro wq hq; go_simp; first | done | with_reducible rfl
        simp only [Act.put, List.setIfInBounds_toArray, List.set_cons_zero, List.set_cons_succ]
        refine takeYesH 5 21 ?v20 rfl rfl (by kernel_rfl) (by kernel_rfl) (by kernel_rfl) (fun _ _ _ _ h => h) (by kernel_rfl) hHeld ?y20 ?r20
        case y20 => intro wq hq; go_simp; first | done | with_reducible rfl
        simp only [Act.put, List.setIfInBounds_toArray, List.set_cons_zero, List.set_cons_succ]
        refine takeYesH 6 22 ?v21 rfl rfl (by kernel_rfl) (by kernel_rfl) (by kernel_rfl) (fun _ _ _ _ h => h) (by kernel_rfl) hHeld ?y21 ?r21
        case y21 => intro wq hq; go_simp; first | done | with_reducible rfl
        simp only [Act.put, List.setIfInBounds_toArray, List.set_cons_zero, List.set_cons_succ]
        refine takeYesH 7 23 ?v22 rfl rfl (by kernel_rfl) (by kernel_rfl) (by kernel_rfl) (fun _ _ _ _ h => h) (by kernel_rfl) hHeld ?y22 ?r22
        case y22 => intro wq hq; go_simp; first | done | with_reducible rfl
        simp only [Act.put, List.setIfInBounds_toArray, List.set_cons_zero, List.set_cons_succ]
        refine takeYesH 8 24 ?v23 rfl rfl (by kernel_rfl) (by kernel_rfl) (by kernel_rfl) (fun _ _ _ _ h => h) (by kernel_rfl) hHeld ?y23 ?r23
        case y23 => intro wq hq; go_simp; first | done | with_reducible rfl
        simp only [Act.put, List.setIfInBounds_toArray, List.set_cons_zero, List.set_cons_succ]
        refine takeYesH 9 25 ?v24 rfl rfl (by kernel_rfl) (by kernel_rfl) (by kernel_rfl) (fun _ _ _ _ h => h) (by kernel_rfl) hHeld ?y24 ?r24
        case y24 =>
          intro wq hq
          have z1 := (Below.cell hq (p := ⟨b, o + k * 5, none⟩) hbl).trans hck
          have z2 := (Below.cell hq (p := ⟨w.heap.size, 0, none⟩) hbx).trans k0
          go_simp
          first | done | with_reducible rfl
        simp only [Act.put, List.setIfInBounds_toArray, List.set_cons_zero, List.set_cons_succ]
        refine takeYesH 10 26 ?v25 rfl rfl (by kernel_rfl) (by kernel_rfl) (by kernel_rfl) (fun _ _ _ _ h => h) (by kernel_rfl) hHeld ?y25 ?r25
        case y25 => intro wq hq; go_simp; first | done | with_reducible rfl
        simp only [Act.put, List.setIfInBounds_toArray, List.set_cons_zero, List.set_cons_succ]
        refine takeYesH 11 27 ?v26 rfl rfl (by kernel_rfl) (by kernel_rfl) (by kernel_rfl) (fun _ _ _ _ h => h) (by kernel_rfl) hHeld ?y26 ?r26
        case y26 =>
          intro wq hq
          have z1 := (Below.cell hq (p := ⟨b, o + k * 5, none⟩) hbl).trans hck
          have z2 := (Below.cell hq (p := ⟨w.heap.size, 0, none⟩) hbx).trans k0
          go_simp
          first | done | with_reducible rfl
        simp only [Act.put, List.setIfInBounds_toArray, List.set_cons_zero, List.set_cons_succ]
        refine takeYesH 12 28 ?v27 rfl rfl (by kernel_rfl) (by kernel_rfl) (by kernel_rfl) (fun _ _ _ _ h => h) (by kernel_rfl) hHeld ?y27 ?r27
        case y27 => intro wq hq; go_simp; first | done | with_reducible rfl
        simp only [Act.put, List.setIfInBounds_toArray, List.set_cons_zero, List.set_cons_succ]
        refine takeYesH 13 29 ?v28 rfl rfl (by kernel_rfl) (by kernel_rfl) (by kernel_rfl) (fun _ _ _ _ h => h) (by kernel_rfl) hHeld ?y28 ?r28
        case y28 => intro wq hq; go_simp; first | done | with_reducible rfl
        simp only [Act.put, List.setIfInBounds_toArray, List.set_cons_zero, List.set_cons_succ]
        refine wpAnyH_done (by kernel_rfl) ?_ _
        replace X := X.trans (hx.trans hHeld)
        replace hr2 := hr2.ext (hx.trans hHeld)
        have hbx2 := Nat.lt_of_lt_of_le hbx hHeld.size
        replace k0 := (Below.cell hHeld (p := ⟨w.heap.size, 0, none⟩) hbx).trans k0
        replace k1 := (Below.cell hHeld (p := ⟨w.heap.size, 1, none⟩) hbx).trans k1
        replace k2 := (Below.cell hHeld (p := ⟨w.heap.size, 2, none⟩) hbx).trans k2
        replace k3 := (Below.cell hHeld (p := ⟨w.heap.size, 3, none⟩) hbx).trans k3
        replace k4 := (Below.cell hHeld (p := ⟨w.heap.size, 4, none⟩) hbx).trans k4
        replace hbx := hbx2
        clear hbx2 hHeld hx
        have hck2 : ¬ c = k := by omega
        have p0 : (0 : Int) ≤ k := by omega
        have p1 : (k : Int) ≤ c := by omega
        have p2 : (k : Int) ≤ n := by omega
        have hfr := hr2.front (k := k) (by omega)
        have hbk : RdG layPl wd (some ⟨b, o + k * 5, none⟩) (n - k) (ps.drop k) := by have := hr2.tail (k := k) (by omega); simpa [layPl] using this
        go_wp2
        go_region_law (first | (refine step_appG layPl rfl _ _ 24 67 rfl Tryz.underlying24 (.agg #[.string ⟨#[]⟩, .int .i64 0, .int .i64 0, .int .i64 0, .slice none 0 0]) 64 Tryz.info_Place rfl (by decide) wd.heap.size _ (k + 1) _ (ps.take k ++ [p]) rfl hown4 _ (n - k) _ (ps.drop k) rfl (hbk.ext hg4) (by omega) hg4.size ?_; intro a5 c5 w5 hown5 hgrow5; have hg5 := hg4.grown hgrow5 (fun k e => (hown4.1.lt k e).1)) | (refine step_appG layPl rfl _ _ 24 67 rfl Tryz.underlying24 (.agg #[.string ⟨#[]⟩, .int .i64 0, .int .i64 0, .int .i64 0, .slice none 0 0]) 64 Tryz.info_Place rfl (by decide) wd.heap.size _ k _ (ps.take k) rfl (hown.ext ((Ext.refl _).alloc _)) _ 1 1 [p] rfl (RdG.new1 layPl _ _ _ rfl _) (by omega) (by have := hg.size; simp only [World.size_alloc]; omega) ?_; intro a4 c4 w4 hown4 hgrow4; have hg4 := (hg.alloc (.cells #[.string p.x.code, .int .i64 p.x.klass, .int .i64 p.x.from_, .int .i64 p.x.to_, .slice p.r.a p.r.n p.r.c] 67)).grown hgrow4 (fun k e => (hown.1.lt k e).1)) | (refine step_appG layPl rfl _ _ 24 67 rfl Tryz.underlying24 (.agg #[.string ⟨#[]⟩, .int .i64 0, .int .i64 0, .int .i64 0, .slice none 0 0]) 64 Tryz.info_Place rfl (by decide) wd.heap.size _ k _ (ps.take k) rfl hown _ 1 1 [p] rfl hlit (by omega) hg.size ?_; intro a4 c4 w4 hown4 hgrow4; have hg4 := hg.grown hgrow4 (fun k e => (hown.1.lt k e).1)) | (have ho0 := (OwnG.lit layPl 67 wd (Nat.le_refl wd.heap.size) [] #[] rfl (by simp)).ext (Ext.refl _).drew; refine step_appG layPl rfl _ _ 24 67 rfl Tryz.underlying24 (.agg #[.string ⟨#[]⟩, .int .i64 0, .int .i64 0, .int .i64 0, .slice none 0 0]) 64 Tryz.info_Place rfl (by decide) wd.heap.size _ 0 _ [] rfl ho0 _ k c (ps.take k) rfl (hfr.ext (((Ext.refl _).alloc (.cells #[] 67)).drew)) (by omega) (by first | omega | (simp only [World.size_alloc, World.size_drew]; omega)) ?_; intro a3 c3 w3 hown hgrow; simp only [Nat.zero_add, List.nil_append] at hown; have hg := (((Ext.refl wd).alloc (.cells #[] 67)).drew).grown hgrow (fun k e => (ho0.1.lt k e).1); have q0 := (Below.cell hg (p := ⟨w.heap.size, 0, none⟩) hbx).trans k0; have q1 := (Below.cell hg (p := ⟨w.heap.size, 1, none⟩) hbx).trans k1; have q2 := (Below.cell hg (p := ⟨w.heap.size, 2, none⟩) hbx).trans k2; have q3 := (Below.cell hg (p := ⟨w.heap.size, 3, none⟩) hbx).trans k3; have q4 := (Below.cell hg (p := ⟨w.heap.size, 4, none⟩) hbx).trans k4) | (have ho0 := ((OwnG.lit layPl 67 wd (Nat.le_refl wd.heap.size) [] #[] rfl (by simp)).ext ((Ext.refl _).alloc (.cells #[.string p.x.code, .int .i64 p.x.klass, .int .i64 p.x.from_, .int .i64 p.x.to_, .slice p.r.a p.r.n p.r.c] 67))).ext (Ext.refl _).drew; have hl0 := RdG.new1 layPl (wd.alloc (.cells #[] 67)) p #[.string p.x.code, .int .i64 p.x.klass, .int .i64 p.x.from_, .int .i64 p.x.to_, .slice p.r.a p.r.n p.r.c] rfl 67; rw [World.size_alloc] at hl0; refine step_appG layPl rfl _ _ 24 67 rfl Tryz.underlying24 (.agg #[.string ⟨#[]⟩, .int .i64 0, .int .i64 0, .int .i64 0, .slice none 0 0]) 64 Tryz.info_Place rfl (by decide) wd.heap.size _ 0 _ [] rfl ho0 _ k c (ps.take k) rfl (hfr.ext ((((Ext.refl _).alloc (.cells #[] 67)).alloc (.cells #[.string p.x.code, .int .i64 p.x.klass, .int .i64 p.x.from_, .int .i64 p.x.to_, .slice p.r.a p.r.n p.r.c] 67)).drew)) (by omega) (by first | omega | (simp only [World.size_alloc, World.size_drew]; omega)) ?_; intro a3 c3 w3 hown hgrow; simp only [Nat.zero_add, List.nil_append] at hown; have hg := ((((Ext.refl wd).alloc (.cells #[] 67)).alloc (.cells #[.string p.x.code, .int .i64 p.x.klass, .int .i64 p.x.from_, .int .i64 p.x.to_, .slice p.r.a p.r.n p.r.c] 67)).drew).grown hgrow (fun k e => (ho0.1.lt k e).1); have q0 := (Below.cell hg (p := ⟨w.heap.size, 0, none⟩) hbx).trans k0; have q1 := (Below.cell hg (p := ⟨w.heap.size, 1, none⟩) hbx).trans k1; have q2 := (Below.cell hg (p := ⟨w.heap.size, 2, none⟩) hbx).trans k2; have q3 := (Below.cell hg (p := ⟨w.heap.size, 3, none⟩) hbx).trans k3; have q4 := (Below.cell hg (p := ⟨w.heap.size, 4, none⟩) hbx).trans k4; have hlit := RdG.grown (hl0.ext (Ext.refl _).drew) hgrow (by simp [Value.ownBlock])) | (have ho1 := OwnG.lit layPl 67 (wd.alloc (.cells #[.string p.x.code, .int .i64 p.x.klass, .int .i64 p.x.from_, .int .i64 p.x.to_, .slice p.r.a p.r.n p.r.c] 67)) (show wd.heap.size ≤ _ by rw [World.size_alloc]; omega) [] #[] rfl (by simp); rw [World.size_alloc] at ho1; have ho0 := ho1.ext (Ext.refl _).drew; have hl0 := RdG.new1 layPl wd p #[.string p.x.code, .int .i64 p.x.klass, .int .i64 p.x.from_, .int .i64 p.x.to_, .slice p.r.a p.r.n p.r.c] rfl 67; refine step_appG layPl rfl _ _ 24 67 rfl Tryz.underlying24 (.agg #[.string ⟨#[]⟩, .int .i64 0, .int .i64 0, .int .i64 0, .slice none 0 0]) 64 Tryz.info_Place rfl (by decide) wd.heap.size _ 0 _ [] rfl ho0 _ k c (ps.take k) rfl (hfr.ext ((((Ext.refl _).alloc (.cells #[.string p.x.code, .int .i64 p.x.klass, .int .i64 p.x.from_, .int .i64 p.x.to_, .slice p.r.a p.r.n p.r.c] 67)).alloc (.cells #[] 67)).drew)) (by omega) (by first | omega | (simp only [World.size_alloc, World.size_drew]; omega)) ?_; intro a3 c3 w3 hown hgrow; simp only [Nat.zero_add, List.nil_append] at hown; have hg := ((((Ext.refl wd).alloc (.cells #[.string p.x.code, .int .i64 p.x.klass, .int .i64 p.x.from_, .int .i64 p.x.to_, .slice p.r.a p.r.n p.r.c] 67)).alloc (.cells #[] 67)).drew).grown hgrow (fun k e => (ho0.1.lt k e).1); have q0 := (Below.cell hg (p := ⟨w.heap.size, 0, none⟩) hbx).trans k0; have q1 := (Below.cell hg (p := ⟨w.heap.size, 1, none⟩) hbx).trans k1; have q2 := (Below.cell hg (p := ⟨w.heap.size, 2, none⟩) hbx).trans k2; have q3 := (Below.cell hg (p := ⟨w.heap.size, 3, none⟩) hbx).trans k3; have q4 := (Below.cell hg (p := ⟨w.heap.size, 4, none⟩) hbx).trans k4; have hlit := RdG.grown ((hl0.ext ((Ext.refl _).alloc (.cells #[] 67))).ext (Ext.refl _).drew) hgrow (by simp [Value.ownBlock])))
        all_goals
          have HO := Lib.hid (And.intro hown5 hg5)
          clear hown5 hg5
          rename World => w5
          have hrd5 := HO.out.1.rd
          have hok5 : ∀ q ∈ ps.take k ++ [p] ++ ps.drop k, OkP w5 0 q := fun q hq => by
            refine (HP.out q ?_).ext (X.trans HO.out.2)
            rcases List.mem_append.1 hq with hq | hq
            · rcases List.mem_append.1 hq with hq | hq
              · exact List.mem_cons_of_mem _ (List.mem_of_mem_take hq)
              · rw [List.mem_singleton.1 hq]; exact List.mem_cons_self ..
            · exact List.mem_cons_of_mem _ (List.mem_of_mem_drop hq)
          have HK := Lib.hid (And.intro hrd5 hok5)
          clear hrd5 hok5
          go_wp2_with fail
          refine (specIsRegister_any _ _ _ _ _ (rdPlace HK.out.1 HK.out.2)).mono ?_
          rintro e w6 ⟨rfl, e6⟩
          cases hR : regB ((ps.take k ++ [p] ++ ps.drop k).map Pl.x)
          · go_wp2
            go_ret2
            exact ⟨_, _, rfl, .inl (by decide), (X.trans HO.out.2).trans e6⟩
          · have hR10 := (regB_at hR).2
            rw [List.length_map] at hR10
            have hl5 := HK.out.1.len
            have HR := Lib.hid hR
            clear hR
            go_wp2_with fail
            refine (l11Own_any _ _ _ 0 _ _ (HK.out.1.ext e6) (fun q hq => (HK.out.2 q hq).ext e6)).mono ?_
            rintro e w7 ⟨a7, c7, qs, rfl, o7, _, x7⟩
            have XX := ((X.trans HO.out.2).trans e6).trans x7
            have o8 := o7.mono ((X.trans HO.out.2).trans e6).size
            have hpos : 0 < k + 1 + (n - k) := by omega
            clear o7
            go_wp2
            go_ret2
            exact ⟨_, _, rfl, .inr ⟨rfl, _, _, _, qs, rfl, hpos, by omega, o8⟩, XX⟩
      · go_wp2
        refine wp_region_held_drew (S := Ext wr) (by kernel_rfl) (Ext.refl _).drew (fun hHeld => ?_)
        generalize hwd : World.drew _ = wd at hHeld ⊢
        clear hwd
        refine takeYesH 0 16 ?v1 rfl rfl (by kernel_rfl) (by kernel_rfl) (by kernel_rfl) (fun _ _ _ _ h => h) (by kernel_rfl) hHeld ?y1 ?r1
        case y1 => intro wq hq; go_simp; first | done | with_reducible rfl
        simp only [Act.put, List.setIfInBounds_toArray, List.set_cons_zero, List.set_cons_succ]
        refine takeYesH 1 17 ?v2 rfl rfl (by kernel_rfl) (by kernel_rfl) (by kernel_rfl) (fun _ _ _ _ h => h) (by kernel_rfl) hHeld ?y2 ?r2
        case y2 => intro wq hq; go_simp; first | done | with_reducible rfl
        simp only [Act.put, List.setIfInBounds_toArray, List.set_cons_zero, List.set_cons_succ]
        refine takeYesH 2 18 ?v3 rfl rfl (by kernel_rfl) (by kernel_rfl) (by kernel_rfl) (fun _ _ _ _ h => h) (by kernel_rfl) hHeld ?y3 ?r3
        case y3 => intro wq hq; go_simp; first | done | with_reducible rfl
        simp only [Act.put, List.setIfInBounds_toArray, List.set_cons_zero, List.set_cons_succ]
        refine takeYesH 3 19 ?v4 rfl rfl (by kernel_rfl) (by kernel_rfl) (by kernel_rfl) (fun _ _ _ _ h => h) (by kernel_rfl) hHeld ?y4 ?r4
        case y4 => intro wq hq; go_simp; first | done | with_reducible rfl
        simp only [Act.put, List.setIfInBounds_toArray, List.set_cons_zero, List.set_cons_succ]
        refine takeYesH 4 20 ?v5 rfl rfl (by kernel_rfl) (by kernel_rfl) (by kernel_rfl) (fun _ _ _ _ h => h) (by kernel_rfl) hHeld ?y5 ?r5
        case y5 => intro wq hq; go_simp; first | done | with_reducible rfl
        simp only [Act.put, List.setIfInBounds_toArray, List.set_cons_zero, List.set_cons_succ]
        refine takeYesH 5 21 ?v6 rfl rfl (by kernel_rfl) (by kernel_rfl) (by kernel_rfl) (fun _ _ _ _ h => h) (by kernel_rfl) hHeld ?y6 ?r6
        case y6 => intro wq hq; go_simp; first | done | with_reducible rfl
        simp only [Act.put, List.setIfInBounds_toArray, List.set_cons_zero, List.set_cons_succ]
        refine takeYesH 6 22 ?v7 rfl rfl (by kernel_rfl) (by kernel_rfl) (by kernel_rfl) (fun _ _ _ _ h => h) (by kernel_rfl) hHeld ?y7 ?r7
        case y7 => intro wq hq; go_simp; first | done | with_reducible rfl
        simp only [Act.put, List.setIfInBounds_toArray, List.set_cons_zero, List.set_cons_succ]
        refine takeYesH 7 23 ?v8 rfl rfl (by kernel_rfl) (by kernel_rfl) (by kernel_rfl) (fun _ _ _ _ h => h) (by kernel_rfl) hHeld ?y8 ?r8
        case y8 => intro wq hq; go_simp; first | done | with_reducible rfl
        simp only [Act.put, List.setIfInBounds_toArray, List.set_cons_zero, List.set_cons_succ]
        refine takeYesH 8 24 ?v9 rfl rfl (by kernel_rfl) (by kernel_rfl) (by kernel_rfl) (fun _ _ _ _ h => h) (by kernel_rfl) hHeld ?y9 ?r9
        case y9 => intro wq hq; go_simp; first | done | with_reducible rfl
        simp only [Act.put, List.setIfInBounds_toArray, List.set_cons_zero, List.set_cons_succ]
        refine takeYesH 9 25 ?v10 rfl rfl (by kernel_rfl) (by kernel_rfl) (by kernel_rfl) (fun _ _ _ _ h => h) (by kernel_rfl) hHeld ?y10 ?r10
        case y10 =>
          intro wq hq
          have z1 := (Below.cell hq (p := ⟨b, o + k * 5, none⟩) hbl).trans hck
          have z2 := (Below.cell hq (p := ⟨w.heap.size, 0, none⟩) hbx).trans k0
          go_simp
          first | done | with_reducible rfl
        simp only [Act.put, List.setIfInBounds_toArray, List.set_cons_zero, List.set_cons_succ]
        refine takeYesH 10 26 ?v11 rfl rfl (by kernel_rfl) (by kernel_rfl) (by kernel_rfl) (fun _ _ _ _ h => h) (by kernel_rfl) hHeld ?y11 ?r11
        case y11 => intro wq hq; go_simp; first | done | with_reducible rfl
        simp only [Act.put, List.setIfInBounds_toArray, List.set_cons_zero, List.set_cons_succ]
        refine takeYesH 11 27 ?v12 rfl rfl (by kernel_rfl) (by kernel_rfl) (by kernel_rfl) (fun _ _ _ _ h => h) (by kernel_rfl) hHeld ?y12 ?r12
        case y12 =>
          intro wq hq
          have z1 := (Below.cell hq (p := ⟨b, o + k * 5, none⟩) hbl).trans hck
          have z2 := (Below.cell hq (p := ⟨w.heap.size, 0, none⟩) hbx).trans k0
          go_simp
          first | done | with_reducible rfl
        simp only [Act.put, List.setIfInBounds_toArray, List.set_cons_zero, List.set_cons_succ]
        refine takeYesH 12 28 ?v13 rfl rfl (by kernel_rfl) (by kernel_rfl) (by kernel_rfl) (fun _ _ _ _ h => h) (by kernel_rfl) hHeld ?y13 ?r13
        case y13 => intro wq hq; go_simp; first | done | with_reducible rfl
        simp only [Act.put, List.setIfInBounds_toArray, List.set_cons_zero, List.set_cons_succ]
        refine takeYesH 13 29 ?v14 rfl rfl (by kernel_rfl) (by kernel_rfl) (by kernel_rfl) (fun _ _ _ _ h => h) (by kernel_rfl) hHeld ?y14 ?r14
        case y14 => intro wq hq; go_simp; first | done | with_reducible rfl
        simp only [Act.put, List.setIfInBounds_toArray, List.set_cons_zero, List.set_cons_succ]
        refine wpAnyH_done (by kernel_rfl) ?_ _
        go_wp2
        refine ⟨⟨k + 1, by omega, by go_num, hx.trans hHeld⟩, ?_⟩
        simp only [intOf]; omega
    · obtain rfl : k = n := by omega
      by_cases hck2 : c = k
      · obtain rfl : k = c := hck2.symm
        go_wp2
        refine wp_region_held_drew (S := Ext wr) (by kernel_rfl) (Ext.refl _).drew (fun hHeld => ?_)
        generalize hwd : World.drew _ = wd at hHeld ⊢
        clear hwd
        refine takeYesH 0 16 ?v29 rfl rfl (by kernel_rfl) (by kernel_rfl) (by kernel_rfl) (fun _ _ _ _ h => h) (by kernel_rfl) hHeld ?y29 ?r29
        case y29 => intro wq hq; go_simp; first | done | with_reducible rfl
        simp only [Act.put, List.setIfInBounds_toArray, List.set_cons_zero, List.set_cons_succ]
        refine takeYesH 1 17 ?v30 rfl rfl (by kernel_rfl) (by kernel_rfl) (by kernel_rfl) (fun _ _ _ _ h => h) (by kernel_rfl) hHeld ?y30 ?r30
        case y30 => intro wq hq; go_simp; first | done | with_reducible rfl
        simp only [Act.put, List.setIfInBounds_toArray, List.set_cons_zero, List.set_cons_succ]
        refine takeYesH 2 18 ?v31 rfl rfl (by kernel_rfl) (by kernel_rfl) (by kernel_rfl) (fun _ _ _ _ h => h) (by kernel_rfl) hHeld ?y31 ?r31
        case y31 => intro wq hq; go_simp; first | done | with_reducible rfl
        simp only [Act.put, List.setIfInBounds_toArray, List.set_cons_zero, List.set_cons_succ]
        refine takeYesH 3 19 ?v32 rfl rfl (by kernel_rfl) (by kernel_rfl) (by kernel_rfl) (fun _ _ _ _ h => h) (by kernel_rfl) hHeld ?y32 ?r32
        case y32 => intro wq hq; go_simp; first | done | with_reducible rfl
        simp only [Act.put, List.setIfInBounds_toArray, List.set_cons_zero, List.set_cons_succ]
        refine takeYesH 4 20 ?v33 rfl rfl (by kernel_rfl) (by kernel_rfl) (by kernel_rfl) (fun _ _ _ _ h => h) (by kernel_rfl) hHeld ?y33 ?r33
        case y33 => intro wq hq; go_simp; first | done | with_reducible rfl
        simp only [Act.put, List.setIfInBounds_toArray, List.set_cons_zero, List.set_cons_succ]
        refine takeNoH 5 21 rfl rfl (by kernel_rfl) (by kernel_rfl) (by kernel_rfl) (fun _ _ _ _ h => h) (by kernel_rfl) hHeld ?_
        simp only [Act.put, List.setIfInBounds_toArray, List.set_cons_zero, List.set_cons_succ]
        refine takeNoH 6 22 rfl rfl (by kernel_rfl) (by kernel_rfl) (by kernel_rfl) (fun _ _ _ _ h => h) (by kernel_rfl) hHeld ?_
        simp only [Act.put, List.setIfInBounds_toArray, List.set_cons_zero, List.set_cons_succ]
        refine takeNoH 7 23 rfl rfl (by kernel_rfl) (by kernel_rfl) (by kernel_rfl) (fun _ _ _ _ h => h) (by kernel_rfl) hHeld ?_
        simp only [Act.put, List.setIfInBounds_toArray, List.set_cons_zero, List.set_cons_succ]
        refine takeNoH 8 24 rfl rfl (by kernel_rfl) (by kernel_rfl) (by kernel_rfl) (fun _ _ _ _ h => h) (by kernel_rfl) hHeld ?_
        simp only [Act.put, List.setIfInBounds_toArray, List.set_cons_zero, List.set_cons_succ]
        refine takeNoH 9 25 rfl rfl (by kernel_rfl) (by kernel_rfl) (by kernel_rfl) (fun _ _ _ _ h => h) (by kernel_rfl) hHeld ?_
        simp only [Act.put, List.setIfInBounds_toArray, List.set_cons_zero, List.set_cons_succ]
        refine takeNoH 10 26 rfl rfl (by kernel_rfl) (by kernel_rfl) (by kernel_rfl) (fun _ _ _ _ h => h) (by kernel_rfl) hHeld ?_
        simp only [Act.put, List.setIfInBounds_toArray, List.set_cons_zero, List.set_cons_succ]
        refine takeNoH 11 27 rfl rfl (by kernel_rfl) (by kernel_rfl) (by kernel_rfl) (fun _ _ _ _ h => h) (by kernel_rfl) hHeld ?_
        simp only [Act.put, List.setIfInBounds_toArray, List.set_cons_zero, List.set_cons_succ]
        refine takeNoH 12 28 rfl rfl (by kernel_rfl) (by kernel_rfl) (by kernel_rfl) (fun _ _ _ _ h => h) (by kernel_rfl) hHeld ?_
        simp only [Act.put, List.setIfInBounds_toArray, List.set_cons_zero, List.set_cons_succ]
        refine takeYesH 13 29 ?v34 rfl rfl (by kernel_rfl) (by kernel_rfl) (by kernel_rfl) (fun _ _ _ _ h => h) (by kernel_rfl) hHeld ?y34 ?r34
        case y34 => intro wq hq; go_simp; first | done | with_reducible rfl
        simp only [Act.put, List.setIfInBounds_toArray, List.set_cons_zero, List.set_cons_succ]
        refine wpAnyH_done (by kernel_rfl) ?_ _
        replace X := X.trans (hx.trans hHeld)
        replace hr2 := hr2.ext (hx.trans hHeld)
        have hbx2 := Nat.lt_of_lt_of_le hbx hHeld.size
        replace k0 := (Below.cell hHeld (p := ⟨w.heap.size, 0, none⟩) hbx).trans k0
        replace k1 := (Below.cell hHeld (p := ⟨w.heap.size, 1, none⟩) hbx).trans k1
        replace k2 := (Below.cell hHeld (p := ⟨w.heap.size, 2, none⟩) hbx).trans k2
        replace k3 := (Below.cell hHeld (p := ⟨w.heap.size, 3, none⟩) hbx).trans k3
        replace k4 := (Below.cell hHeld (p := ⟨w.heap.size, 4, none⟩) hbx).trans k4
        replace hbx := hbx2
        clear hbx2 hHeld hx
        have p0 : (0 : Int) ≤ k := by omega
        have hfr := hr2.front (k := k) (by omega)
        have hbk : ∀ ad, RdG layPl wd ad 0 (ps.drop k) := fun ad => by rw [List.drop_of_length_le (by omega)]; exact RdG.nil _ _ _
        go_wp2
        go_region_law (first | (refine step_appG layPl rfl _ _ 24 67 rfl Tryz.underlying24 (.agg #[.string ⟨#[]⟩, .int .i64 0, .int .i64 0, .int .i64 0, .slice none 0 0]) 64 Tryz.info_Place rfl (by decide) wd.heap.size _ (k + 1) _ (ps.take k ++ [p]) rfl hown4 _ 0 _ (ps.drop k) rfl ((hbk _).ext hg4) (by omega) hg4.size ?_; intro a5 c5 w5 hown5 hgrow5; have hg5 := hg4.grown hgrow5 (fun k e => (hown4.1.lt k e).1)) | (refine step_appG layPl rfl _ _ 24 67 rfl Tryz.underlying24 (.agg #[.string ⟨#[]⟩, .int .i64 0, .int .i64 0, .int .i64 0, .slice none 0 0]) 64 Tryz.info_Place rfl (by decide) wd.heap.size _ k _ (ps.take k) rfl (hown.ext ((Ext.refl _).alloc _)) _ 1 1 [p] rfl (RdG.new1 layPl _ _ _ rfl _) (by omega) (by have := hg.size; simp only [World.size_alloc]; omega) ?_; intro a4 c4 w4 hown4 hgrow4; have hg4 := (hg.alloc (.cells #[.string p.x.code, .int .i64 p.x.klass, .int .i64 p.x.from_, .int .i64 p.x.to_, .slice p.r.a p.r.n p.r.c] 67)).grown hgrow4 (fun k e => (hown.1.lt k e).1)) | (refine step_appG layPl rfl _ _ 24 67 rfl Tryz.underlying24 (.agg #[.string ⟨#[]⟩, .int .i64 0, .int .i64 0, .int .i64 0, .slice none 0 0]) 64 Tryz.info_Place rfl (by decide) wd.heap.size _ k _ (ps.take k) rfl hown _ 1 1 [p] rfl hlit (by omega) hg.size ?_; intro a4 c4 w4 hown4 hgrow4; have hg4 := hg.grown hgrow4 (fun k e => (hown.1.lt k e).1)) | (have ho0 := (OwnG.lit layPl 67 wd (Nat.le_refl wd.heap.size) [] #[] rfl (by simp)).ext (Ext.refl _).drew; refine step_appG layPl rfl _ _ 24 67 rfl Tryz.underlying24 (.agg #[.string ⟨#[]⟩, .int .i64 0, .int .i64 0, .int .i64 0, .slice none 0 0]) 64 Tryz.info_Place rfl (by decide) wd.heap.size _ 0 _ [] rfl ho0 _ k k (ps.take k) rfl (hfr.ext (((Ext.refl _).alloc (.cells #[] 67)).drew)) (by omega) (by first | omega | (simp only [World.size_alloc, World.size_drew]; omega)) ?_; intro a3 c3 w3 hown hgrow; simp only [Nat.zero_add, List.nil_append] at hown; have hg := (((Ext.refl wd).alloc (.cells #[] 67)).drew).grown hgrow (fun k e => (ho0.1.lt k e).1); have q0 := (Below.cell hg (p := ⟨w.heap.size, 0, none⟩) hbx).trans k0; have q1 := (Below.cell hg (p := ⟨w.heap.size, 1, none⟩) hbx).trans k1; have q2 := (Below.cell hg (p := ⟨w.heap.size, 2, none⟩) hbx).trans k2; have q3 := (Below.cell hg (p := ⟨w.heap.size, 3, none⟩) hbx).trans k3; have q4 := (Below.cell hg (p := ⟨w.heap.size, 4, none⟩) hbx).trans k4) | (have ho0 := ((OwnG.lit layPl 67 wd (Nat.le_refl wd.heap.size) [] #[] rfl (by simp)).ext ((Ext.refl _).alloc (.cells #[.string p.x.code, .int .i64 p.x.klass, .int .i64 p.x.from_, .int .i64 p.x.to_, .slice p.r.a p.r.n p.r.c] 67))).ext (Ext.refl _).drew; have hl0 := RdG.new1 layPl (wd.alloc (.cells #[] 67)) p #[.string p.x.code, .int .i64 p.x.klass, .int .i64 p.x.from_, .int .i64 p.x.to_, .slice p.r.a p.r.n p.r.c] rfl 67; rw [World.size_alloc] at hl0; refine step_appG layPl rfl _ _ 24 67 rfl Tryz.underlying24 (.agg #[.string ⟨#[]⟩, .int .i64 0, .int .i64 0, .int .i64 0, .slice none 0 0]) 64 Tryz.info_Place rfl (by decide) wd.heap.size _ 0 _ [] rfl ho0 _ k k (ps.take k) rfl (hfr.ext ((((Ext.refl _).alloc (.cells #[] 67)).alloc (.cells #[.string p.x.code, .int .i64 p.x.klass, .int .i64 p.x.from_, .int .i64 p.x.to_, .slice p.r.a p.r.n p.r.c] 67)).drew)) (by omega) (by first | omega | (simp only [World.size_alloc, World.size_drew]; omega)) ?_; intro a3 c3 w3 hown hgrow; simp only [Nat.zero_add, List.nil_append] at hown; have hg := ((((Ext.refl wd).alloc (.cells #[] 67)).alloc (.cells #[.string p.x.code, .int .i64 p.x.klass, .int .i64 p.x.from_, .int .i64 p.x.to_, .slice p.r.a p.r.n p.r.c] 67)).drew).grown hgrow (fun k e => (ho0.1.lt k e).1); have q0 := (Below.cell hg (p := ⟨w.heap.size, 0, none⟩) hbx).trans k0; have q1 := (Below.cell hg (p := ⟨w.heap.size, 1, none⟩) hbx).trans k1; have q2 := (Below.cell hg (p := ⟨w.heap.size, 2, none⟩) hbx).trans k2; have q3 := (Below.cell hg (p := ⟨w.heap.size, 3, none⟩) hbx).trans k3; have q4 := (Below.cell hg (p := ⟨w.heap.size, 4, none⟩) hbx).trans k4; have hlit := RdG.grown (hl0.ext (Ext.refl _).drew) hgrow (by simp [Value.ownBlock])) | (have ho1 := OwnG.lit layPl 67 (wd.alloc (.cells #[.string p.x.code, .int .i64 p.x.klass, .int .i64 p.x.from_, .int .i64 p.x.to_, .slice p.r.a p.r.n p.r.c] 67)) (show wd.heap.size ≤ _ by rw [World.size_alloc]; omega) [] #[] rfl (by simp); rw [World.size_alloc] at ho1; have ho0 := ho1.ext (Ext.refl _).drew; have hl0 := RdG.new1 layPl wd p #[.string p.x.code, .int .i64 p.x.klass, .int .i64 p.x.from_, .int .i64 p.x.to_, .slice p.r.a p.r.n p.r.c] rfl 67; refine step_appG layPl rfl _ _ 24 67 rfl Tryz.underlying24 (.agg #[.string ⟨#[]⟩, .int .i64 0, .int .i64 0, .int .i64 0, .slice none 0 0]) 64 Tryz.info_Place rfl (by decide) wd.heap.size _ 0 _ [] rfl ho0 _ k k (ps.take k) rfl (hfr.ext ((((Ext.refl _).alloc (.cells #[.string p.x.code, .int .i64 p.x.klass, .int .i64 p.x.from_, .int .i64 p.x.to_, .slice p.r.a p.r.n p.r.c] 67)).alloc (.cells #[] 67)).drew)) (by omega) (by first | omega | (simp only [World.size_alloc, World.size_drew]; omega)) ?_; intro a3 c3 w3 hown hgrow; simp only [Nat.zero_add, List.nil_append] at hown; have hg := ((((Ext.refl wd).alloc (.cells #[.string p.x.code, .int .i64 p.x.klass, .int .i64 p.x.from_, .int .i64 p.x.to_, .slice p.r.a p.r.n p.r.c] 67)).alloc (.cells #[] 67)).drew).grown hgrow (fun k e => (ho0.1.lt k e).1); have q0 := (Below.cell hg (p := ⟨w.heap.size, 0, none⟩) hbx).trans k0; have q1 := (Below.cell hg (p := ⟨w.heap.size, 1, none⟩) hbx).trans k1; have q2 := (Below.cell hg (p := ⟨w.heap.size, 2, none⟩) hbx).trans k2; have q3 := (Below.cell hg (p := ⟨w.heap.size, 3, none⟩) hbx).trans k3; have q4 := (Below.cell hg (p := ⟨w.heap.size, 4, none⟩) hbx).trans k4; have hlit := RdG.grown ((hl0.ext ((Ext.refl _).alloc (.cells #[] 67))).ext (Ext.refl _).drew) hgrow (by simp [Value.ownBlock])))
        all_goals
          have HO := Lib.hid (And.intro hown5 hg5)
          clear hown5 hg5
          rename World => w5
          have hrd5 := HO.out.1.rd
          have hok5 : ∀ q ∈ ps.take k ++ [p] ++ ps.drop k, OkP w5 0 q := fun q hq => by
            refine (HP.out q ?_).ext (X.trans HO.out.2)
            rcases List.mem_append.1 hq with hq | hq
            · rcases List.mem_append.1 hq with hq | hq
              · exact List.mem_cons_of_mem _ (List.mem_of_mem_take hq)
              · rw [List.mem_singleton.1 hq]; exact List.mem_cons_self ..
            · exact List.mem_cons_of_mem _ (List.mem_of_mem_drop hq)
          have HK := Lib.hid (And.intro hrd5 hok5)
          clear hrd5 hok5
          go_wp2_with fail
          refine (specIsRegister_any _ _ _ _ _ (rdPlace HK.out.1 HK.out.2)).mono ?_
          rintro e w6 ⟨rfl, e6⟩
          cases hR : regB ((ps.take k ++ [p] ++ ps.drop k).map Pl.x)
          · go_wp2
            go_ret2
            exact ⟨_, _, rfl, .inl (by decide), (X.trans HO.out.2).trans e6⟩
          · have hR10 := (regB_at hR).2
            rw [List.length_map] at hR10
            have hl5 := HK.out.1.len
            have HR := Lib.hid hR
            clear hR
            go_wp2_with fail
            refine (l11Own_any _ _ _ 0 _ _ (HK.out.1.ext e6) (fun q hq => (HK.out.2 q hq).ext e6)).mono ?_
            rintro e w7 ⟨a7, c7, qs, rfl, o7, _, x7⟩
            have XX := ((X.trans HO.out.2).trans e6).trans x7
            have o8 := o7.mono ((X.trans HO.out.2).trans e6).size
            have hpos : 0 < k + 1 + 0 := by omega
            clear o7
            go_wp2
            go_ret2
            exact ⟨_, _, rfl, .inr ⟨rfl, _, _, _, qs, rfl, hpos, by omega, o8⟩, XX⟩
      · go_wp2
        refine wp_region_held_drew (S := Ext wr) (by kernel_rfl) (Ext.refl _).drew (fun hHeld => ?_)
        generalize hwd : World.drew _ = wd at hHeld ⊢
        clear hwd
        refine takeYesH 0 16 ?v35 rfl rfl (by kernel_rfl) (by kernel_rfl) (by kernel_rfl) (fun _ _ _ _ h => h) (by kernel_rfl) hHeld ?y35 ?r35
        case y35 => intro wq hq; go_simp; first | done | with_reducible rfl
        simp only [Act.put, List.setIfInBounds_toArray, List.set_cons_zero, List.set_cons_succ]
        refine takeYesH 1 17 ?v36 rfl rfl (by kernel_rfl) (by kernel_rfl) (by kernel_rfl) (fun _ _ _ _ h => h) (by kernel_rfl) hHeld ?y36 ?r36
        case y36 => intro wq hq; go_simp; first | done | with_reducible rfl
        simp only [Act.put, List.setIfInBounds_toArray, List.set_cons_zero, List.set_cons_succ]
        refine takeYesH 2 18 ?v37 rfl rfl (by kernel_rfl) (by kernel_rfl) (by kernel_rfl) (fun _ _ _ _ h => h) (by kernel_rfl) hHeld ?y37 ?r37
        case y37 => intro wq hq; go_simp; first | done | with_reducible rfl
        simp only [Act.put, List.setIfInBounds_toArray, List.set_cons_zero, List.set_cons_succ]
        refine takeYesH 3 19 ?v38 rfl rfl (by kernel_rfl) (by kernel_rfl) (by kernel_rfl) (fun _ _ _ _ h => h) (by kernel_rfl) hHeld ?y38 ?r38
        case y38 => intro wq hq; go_simp; first | done | with_reducible rfl
        simp only [Act.put, List.setIfInBounds_toArray, List.set_cons_zero, List.set_cons_succ]
        refine takeYesH 4 20 ?v39 rfl rfl (by kernel_rfl) (by kernel_rfl) (by kernel_rfl) (fun _ _ _ _ h => h) (by kernel_rfl) hHeld ?y39 ?r39
        case y39 => intro wq hq; go_simp; first | done | with_reducible rfl
        simp only [Act.put, List.setIfInBounds_toArray, List.set_cons_zero, List.set_cons_succ]
        refine takeNoH 5 21 rfl rfl (by kernel_rfl) (by kernel_rfl) (by kernel_rfl) (fun _ _ _ _ h => h) (by kernel_rfl) hHeld ?_
        simp only [Act.put, List.setIfInBounds_toArray, List.set_cons_zero, List.set_cons_succ]
        refine takeNoH 6 22 rfl rfl (by kernel_rfl) (by kernel_rfl) (by kernel_rfl) (fun _ _ _ _ h => h) (by kernel_rfl) hHeld ?_
        simp only [Act.put, List.setIfInBounds_toArray, List.set_cons_zero, List.set_cons_succ]
        refine takeNoH 7 23 rfl rfl (by kernel_rfl) (by kernel_rfl) (by kernel_rfl) (fun _ _ _ _ h => h) (by kernel_rfl) hHeld ?_
        simp only [Act.put, List.setIfInBounds_toArray, List.set_cons_zero, List.set_cons_succ]
        refine takeNoH 8 24 rfl rfl (by kernel_rfl) (by kernel_rfl) (by kernel_rfl) (fun _ _ _ _ h => h) (by kernel_rfl) hHeld ?_
        simp only [Act.put, List.setIfInBounds_toArray, List.set_cons_zero, List.set_cons_succ]
        refine takeNoH 9 25 rfl rfl (by kernel_rfl) (by kernel_rfl) (by kernel_rfl) (fun _ _ _ _ h => h) (by kernel_rfl) hHeld ?_
        simp only [Act.put, List.setIfInBounds_toArray, List.set_cons_zero, List.set_cons_succ]
        refine takeNoH 10 26 rfl rfl (by kernel_rfl) (by kernel_rfl) (by kernel_rfl) (fun _ _ _ _ h => h) (by kernel_rfl) hHeld ?_
        simp only [Act.put, List.setIfInBounds_toArray, List.set_cons_zero, List.set_cons_succ]
        refine takeNoH 11 27 rfl rfl (by kernel_rfl) (by kernel_rfl) (by kernel_rfl) (fun _ _ _ _ h => h) (by kernel_rfl) hHeld ?_
        simp only [Act.put, List.setIfInBounds_toArray, List.set_cons_zero, List.set_cons_succ]
        refine takeNoH 12 28 rfl rfl (by kernel_rfl) (by kernel_rfl) (by kernel_rfl) (fun _ _ _ _ h => h) (by kernel_rfl) hHeld ?_
        simp only [Act.put, List.setIfInBounds_toArray, List.set_cons_zero, List.set_cons_succ]
        refine takeYesH 13 29 ?v40 rfl rfl (by kernel_rfl) (by kernel_rfl) (by kernel_rfl) (fun _ _ _ _ h => h) (by kernel_rfl) hHeld ?y40 ?r40
        case y40 => intro wq hq; go_simp; first | done | with_reducible rfl
        simp only [Act.put, List.setIfInBounds_toArray, List.set_cons_zero, List.set_cons_succ]
        refine wpAnyH_done (by kernel_rfl) ?_ _
        replace X := X.trans (hx.trans hHeld)
        replace hr2 := hr2.ext (hx.trans hHeld)
        have hbx2 := Nat.lt_of_lt_of_le hbx hHeld.size
        replace k0 := (Below.cell hHeld (p := ⟨w.heap.size, 0, none⟩) hbx).trans k0
        replace k1 := (Below.cell hHeld (p := ⟨w.heap.size, 1, none⟩) hbx).trans k1
        replace k2 := (Below.cell hHeld (p := ⟨w.heap.size, 2, none⟩) hbx).trans k2
        replace k3 := (Below.cell hHeld (p := ⟨w.heap.size, 3, none⟩) hbx).trans k3
        replace k4 := (Below.cell hHeld (p := ⟨w.heap.size, 4, none⟩) hbx).trans k4
        replace hbx := hbx2
        clear hbx2 hHeld hx
        have p0 : (0 : Int) ≤ k := by omega
        have p1 : (k : Int) ≤ c := by omega
        have hfr := hr2.front (k := k) (by omega)
        have hbk : ∀ ad, RdG layPl wd ad 0 (ps.drop k) := fun ad => by rw [List.drop_of_length_le (by omega)]; exact RdG.nil _ _ _
        go_wp2
        go_region_law (first | (refine step_appG layPl rfl _ _ 24 67 rfl Tryz.underlying24 (.agg #[.string ⟨#[]⟩, .int .i64 0, .int .i64 0, .int .i64 0, .slice none 0 0]) 64 Tryz.info_Place rfl (by decide) wd.heap.size _ (k + 1) _ (ps.take k ++ [p]) rfl hown4 _ 0 _ (ps.drop k) rfl ((hbk _).ext hg4) (by omega) hg4.size ?_; intro a5 c5 w5 hown5 hgrow5; have hg5 := hg4.grown hgrow5 (fun k e => (hown4.1.lt k e).1)) | (refine step_appG layPl rfl _ _ 24 67 rfl Tryz.underlying24 (.agg #[.string ⟨#[]⟩, .int .i64 0, .int .i64 0, .int .i64 0, .slice none 0 0]) 64 Tryz.info_Place rfl (by decide) wd.heap.size _ k _ (ps.take k) rfl (hown.ext ((Ext.refl _).alloc _)) _ 1 1 [p] rfl (RdG.new1 layPl _ _ _ rfl _) (by omega) (by have := hg.size; simp only [World.size_alloc]; omega) ?_; intro a4 c4 w4 hown4 hgrow4; have hg4 := (hg.alloc (.cells #[.string p.x.code, .int .i64 p.x.klass, .int .i64 p.x.from_, .int .i64 p.x.to_, .slice p.r.a p.r.n p.r.c] 67)).grown hgrow4 (fun k e => (hown.1.lt k e).1)) | (refine step_appG layPl rfl _ _ 24 67 rfl Tryz.underlying24 (.agg #[.string ⟨#[]⟩, .int .i64 0, .int .i64 0, .int .i64 0, .slice none 0 0]) 64 Tryz.info_Place rfl (by decide) wd.heap.size _ k _ (ps.take k) rfl hown _ 1 1 [p] rfl hlit (by omega) hg.size ?_; intro a4 c4 w4 hown4 hgrow4; have hg4 := hg.grown hgrow4 (fun k e => (hown.1.lt k e).1)) | (have ho0 := (OwnG.lit layPl 67 wd (Nat.le_refl wd.heap.size) [] #[] rfl (by simp)).ext (Ext.refl _).drew; refine step_appG layPl rfl _ _ 24 67 rfl Tryz.underlying24 (.agg #[.string ⟨#[]⟩, .int .i64 0, .int .i64 0, .int .i64 0, .slice none 0 0]) 64 Tryz.info_Place rfl (by decide) wd.heap.size _ 0 _ [] rfl ho0 _ k c (ps.take k) rfl (hfr.ext (((Ext.refl _).alloc (.cells #[] 67)).drew)) (by omega) (by first | omega | (simp only [World.size_alloc, World.size_drew]; omega)) ?_; intro a3 c3 w3 hown hgrow; simp only [Nat.zero_add, List.nil_append] at hown; have hg := (((Ext.refl wd).alloc (.cells #[] 67)).drew).grown hgrow (fun k e => (ho0.1.lt k e).1); have q0 := (Below.cell hg (p := ⟨w.heap.size, 0, none⟩) hbx).trans k0; have q1 := (Below.cell hg (p := ⟨w.heap.size, 1, none⟩) hbx).trans k1; have q2 := (Below.cell hg (p := ⟨w.heap.size, 2, none⟩) hbx).trans k2; have q3 := (Below.cell hg (p := ⟨w.heap.size, 3, none⟩) hbx).trans k3; have q4 := (Below.cell hg (p := ⟨w.heap.size, 4, none⟩) hbx).trans k4) | (have ho0 := ((OwnG.lit layPl 67 wd (Nat.le_refl wd.heap.size) [] #[] rfl (by simp)).ext ((Ext.refl _).alloc (.cells #[.string p.x.code, .int .i64 p.x.klass, .int .i64 p.x.from_, .int .i64 p.x.to_, .slice p.r.a p.r.n p.r.c] 67))).ext (Ext.refl _).drew; have hl0 := RdG.new1 layPl (wd.alloc (.cells #[] 67)) p #[.string p.x.code, .int .i64 p.x.klass, .int .i64 p.x.from_, .int .i64 p.x.to_, .slice p.r.a p.r.n p.r.c] rfl 67; rw [World.size_alloc] at hl0; refine step_appG layPl rfl _ _ 24 67 rfl Tryz.underlying24 (.agg #[.string ⟨#[]⟩, .int .i64 0, .int .i64 0, .int .i64 0, .slice none 0 0]) 64 Tryz.info_Place rfl (by decide) wd.heap.size _ 0 _ [] rfl ho0 _ k c (ps.take k) rfl (hfr.ext ((((Ext.refl _).alloc (.cells #[] 67)).alloc (.cells #[.string p.x.code, .int .i64 p.x.klass, .int .i64 p.x.from_, .int .i64 p.x.to_, .slice p.r.a p.r.n p.r.c] 67)).drew)) (by omega) (by first | omega | (simp only [World.size_alloc, World.size_drew]; omega)) ?_; intro a3 c3 w3 hown hgrow; simp only [Nat.zero_add, List.nil_append] at hown; have hg := ((((Ext.refl wd).alloc (.cells #[] 67)).alloc (.cells #[.string p.x.code, .int .i64 p.x.klass, .int .i64 p.x.from_, .int .i64 p.x.to_, .slice p.r.a p.r.n p.r.c] 67)).drew).grown hgrow (fun k e => (ho0.1.lt k e).1); have q0 := (Below.cell hg (p := ⟨w.heap.size, 0, none⟩) hbx).trans k0; have q1 := (Below.cell hg (p := ⟨w.heap.size, 1, none⟩) hbx).trans k1; have q2 := (Below.cell hg (p := ⟨w.heap.size, 2, none⟩) hbx).trans k2; have q3 := (Below.cell hg (p := ⟨w.heap.size, 3, none⟩) hbx).trans k3; have q4 := (Below.cell hg (p := ⟨w.heap.size, 4, none⟩) hbx).trans k4; have hlit := RdG.grown (hl0.ext (Ext.refl _).drew) hgrow (by simp [Value.ownBlock])) | (have ho1 := OwnG.lit layPl 67 (wd.alloc (.cells #[.string p.x.code, .int .i64 p.x.klass, .int .i64 p.x.from_, .int .i64 p.x.to_, .slice p.r.a p.r.n p.r.c] 67)) (show wd.heap.size ≤ _ by rw [World.size_alloc]; omega) [] #[] rfl (by simp); rw [World.size_alloc] at ho1; have ho0 := ho1.ext (Ext.refl _).drew; have hl0 := RdG.new1 layPl wd p #[.string p.x.code, .int .i64 p.x.klass, .int .i64 p.x.from_, .int .i64 p.x.to_, .slice p.r.a p.r.n p.r.c] rfl 67; refine step_appG layPl rfl _ _ 24 67 rfl Tryz.underlying24 (.agg #[.string ⟨#[]⟩, .int .i64 0, .int .i64 0, .int .i64 0, .slice none 0 0]) 64 Tryz.info_Place rfl (by decide) wd.heap.size _ 0 _ [] rfl ho0 _ k c (ps.take k) rfl (hfr.ext ((((Ext.refl _).alloc (.cells #[.string p.x.code, .int .i64 p.x.klass, .int .i64 p.x.from_, .int .i64 p.x.to_, .slice p.r.a p.r.n p.r.c] 67)).alloc (.cells #[] 67)).drew)) (by omega) (by first | omega | (simp only [World.size_alloc, World.size_drew]; omega)) ?_; intro a3 c3 w3 hown hgrow; simp only [Nat.zero_add, List.nil_append] at hown; have hg := ((((Ext.refl wd).alloc (.cells #[.string p.x.code, .int .i64 p.x.klass, .int .i64 p.x.from_, .int .i64 p.x.to_, .slice p.r.a p.r.n p.r.c] 67)).alloc (.cells #[] 67)).drew).grown hgrow (fun k e => (ho0.1.lt k e).1); have q0 := (Below.cell hg (p := ⟨w.heap.size, 0, none⟩) hbx).trans k0; have q1 := (Below.cell hg (p := ⟨w.heap.size, 1, none⟩) hbx).trans k1; have q2 := (Below.cell hg (p := ⟨w.heap.size, 2, none⟩) hbx).trans k2; have q3 := (Below.cell hg (p := ⟨w.heap.size, 3, none⟩) hbx).trans k3; have q4 := (Below.cell hg (p := ⟨w.heap.size, 4, none⟩) hbx).trans k4; have hlit := RdG.grown ((hl0.ext ((Ext.refl _).alloc (.cells #[] 67))).ext (Ext.refl _).drew) hgrow (by simp [Value.ownBlock])))
        all_goals
          have HO := Lib.hid (And.intro hown5 hg5)
          clear hown5 hg5
          rename World => w5
          have hrd5 := HO.out.1.rd
          have hok5 : ∀ q ∈ ps.take k ++ [p] ++ ps.drop k, OkP w5 0 q := fun q hq => by
            refine (HP.out q ?_).ext (X.trans HO.out.2)
            rcases List.mem_append.1 hq with hq | hq
            · rcases List.mem_append.1 hq with hq | hq
              · exact List.mem_cons_of_mem _ (List.mem_of_mem_take hq)
              · rw [List.mem_singleton.1 hq]; exact List.mem_cons_self ..
            · exact List.mem_cons_of_mem _ (List.mem_of_mem_drop hq)
          have HK := Lib.hid (And.intro hrd5 hok5)
          clear hrd5 hok5
          go_wp2_with fail
          refine (specIsRegister_any _ _ _ _ _ (rdPlace HK.out.1 HK.out.2)).mono ?_
          rintro e w6 ⟨rfl, e6⟩
          cases hR : regB ((ps.take k ++ [p] ++ ps.drop k).map Pl.x)
          · go_wp2
            go_ret2
            exact ⟨_, _, rfl, .inl (by decide), (X.trans HO.out.2).trans e6⟩
          · have hR10 := (regB_at hR).2
            rw [List.length_map] at hR10
            have hl5 := HK.out.1.len
            have HR := Lib.hid hR
            clear hR
            go_wp2_with fail
            refine (l11Own_any _ _ _ 0 _ _ (HK.out.1.ext e6) (fun q hq => (HK.out.2 q hq).ext e6)).mono ?_
            rintro e w7 ⟨a7, c7, qs, rfl, o7, _, x7⟩
            have XX := ((X.trans HO.out.2).trans e6).trans x7
            have o8 := o7.mono ((X.trans HO.out.2).trans e6).size
            have hpos : 0 < k + 1 + 0 := by omega
            clear o7
            go_wp2
            go_ret2
            exact ⟨_, _, rfl, .inr ⟨rfl, _, _, _, qs, rfl, hpos, by omega, o8⟩, XX⟩

end Go.Proofs.YtjelmidkkpchkaaGreatDoor

/-
  ReadName on both sides.
-/
import Derived.Test.YtajgjccnhippcaaGreatDoorNR
import Derived.Test.YtajgjccnhippcaaGreatDoorEV
import Derived.Lib.ConvBytes
import Derived.Deep.RegionWith
import Derived.Deep.RegionHeld3
import Derived.Test.YtajgjccnhippcaaGreatDoorTK
namespace Go.Proofs.YtajgjccnhippcaaGreatDoor
open Go.RowKit

set_option maxRecDepth 100000 in
set_option maxHeartbeats 1000000 in
theorem readNumber_any (s : ByteArray) (w : World) (hs : s.size ≤ 1073741824) (ht : TabW w) (he : ErrW w) :
    Calls Tryz.prog 92 #[.string s] w fun e w' => e = .returned (.tuple #[.int .i64 (numV s.data.toList), .bool (numB s.data.toList)]) ∧ Ext w w' := by
  cases hp : Lib.parseIntB 64 s.data.toList with
  | ok n =>
    have hbd : -9223372036854775808 ≤ n ∧ n ≤ 9223372036854775807 := by rw [Lib.parseIntB_64] at hp; exact Lib.atoiAll_bounds hp
    have HV := Lib.hid (show numV s.data.toList = n ∧ numB s.data.toList = decide (Lib.itoa n = s.data.toList) by rw [numV, numB, hp]; exact ⟨rfl, rfl⟩)
    have HD := Lib.hid (show ((itoaB n).toList == s.toList) = decide (Lib.itoa n = s.data.toList) by
      rw [ByteArray.toList_eq, ByteArray.toList_eq]
      show (Lib.itoa n == s.data.toList) = _
      rw [Bool.eq_iff_iff]; simp)
    have hcon := Tryz.strconv_ParseInt_10_at64_ok s (by omega) n hp w
    have HC := Lib.hid hcon
    clear hcon hp
    go_enter Tryz.func92, Tryz.ntmps92
    go_wp2_with fail
    refine HC.out.mono ?_
    rintro e w1 ⟨rfl, hw1⟩
    have e1 : Ext w w1 := by
      rcases hw1 with rfl | ⟨t, rfl⟩
      · exact Ext.refl _
      · exact ⟨rfl, rfl, rfl, by rw [Lib.bytesWorld_size]; omega, fun k hk => Lib.bytesWorld_at_old w _ t k hk⟩
    clear hw1
    go_wp2_with fail
    refine (decimalN_any n _ hbd.1 hbd.2 (ht.ext e1)).mono ?_
    rintro e w2 ⟨rfl, e2⟩
    have hd := HD.out
    go_wp2
    go_ret2
    rw [HV.out.1, HV.out.2]
    exact ⟨rfl, e1.trans e2⟩
  | range =>
    obtain ⟨_, te, pe, h1⟩ := he
    have HV := Lib.hid (show numV s.data.toList = Lib.intSat 64 s.data.toList ∧ numB s.data.toList = false by rw [numV, numB, hp]; exact ⟨rfl, rfl⟩)
    have HC := Lib.hid (Tryz.strconv_ParseInt_10_at64_range s (by omega) hp _ w h1 (.inr ⟨te, pe, rfl⟩))
    clear hp h1
    go_enter Tryz.func92, Tryz.ntmps92
    go_wp2_with fail
    refine HC.out.mono ?_
    rintro e w1 ⟨N, rfl, _, _, e1⟩
    go_wp2
    go_ret2
    rw [HV.out.1, HV.out.2]
    exact ⟨rfl, e1⟩
  | _ =>
    obtain ⟨⟨te, pe, h1⟩, _⟩ := he
    have HV := Lib.hid (show numV s.data.toList = 0 ∧ numB s.data.toList = false by rw [numV, numB, hp]; exact ⟨rfl, rfl⟩)
    have HC := Lib.hid (Tryz.strconv_ParseInt_10_at64_syntax s (by omega) (fun n hn => by rw [hp] at hn; cases hn) (fun hn => by rw [hp] at hn; cases hn) _ w h1 (.inr ⟨te, pe, rfl⟩))
    clear hp h1
    go_enter Tryz.func92, Tryz.ntmps92
    go_wp2_with fail
    refine HC.out.mono ?_
    rintro e w1 ⟨N, rfl, _, _, e1⟩
    go_wp2
    go_ret2
    rw [HV.out.1, HV.out.2]
    exact ⟨rfl, e1⟩

theorem cut_le (s sub : List UInt8) : (Lib.cut s sub).1.length ≤ s.length ∧ (Lib.cut s sub).2.1.length ≤ s.length := by
  rw [Lib.cut]
  split
  · simp; omega
  · simp

set_option maxRecDepth 100000 in
set_option maxHeartbeats 2000000 in
theorem readSpan_any (s : ByteArray) (w : World) (hs : s.size ≤ 1073741824) (ht : TabW w) (he : ErrW w) (hmax : MaxW w) :
    Calls Tryz.prog 93 #[.string s] w fun e w' => e = .returned (.tuple #[valSpan (spV s.data.toList), .bool (spB s.data.toList)]) ∧ Ext w w' := by
  obtain ⟨p, hp⟩ : ∃ p : ByteArray, p = ⟨(Lib.cut s.data.toList [46, 46]).1.toArray⟩ := ⟨_, rfl⟩
  obtain ⟨q, hq⟩ : ∃ q : ByteArray, q = ⟨(Lib.cut s.data.toList [46, 46]).2.1.toArray⟩ := ⟨_, rfl⟩
  obtain ⟨f, hf⟩ : ∃ f : Bool, f = (Lib.cut s.data.toList [46, 46]).2.2 := ⟨_, rfl⟩
  have hle := cut_le s.data.toList [46, 46]
  have hsl : s.data.toList.length = s.size := rfl
  have hpl : p.size = (Lib.cut s.data.toList [46, 46]).1.length := by rw [hp]; exact List.size_toArray
  have hql : q.size = (Lib.cut s.data.toList [46, 46]).2.1.length := by rw [hq]; exact List.size_toArray
  have hps : p.size ≤ 1073741824 := by omega
  have hqs : q.size ≤ 1073741824 := by omega
  clear hpl hql
  obtain ⟨m, hm⟩ := hmax
  have xb := (Ext.refl w).alloc (.cells #[.int .i64 0, .int .i64 0] 60)
  have hm' := (Below.cell xb (p := ⟨0, 0, none⟩) (World.block_lt_of_cell? w _ hm)).trans hm
  have hcut := Tryz.strings_Cut s ⟨#[46, 46]⟩ m _ (by omega) hm'
  rw [show (⟨#[46, 46]⟩ : ByteArray).data.toList = [46, 46] from rfl, ← hp, ← hq, ← hf] at hcut
  have HC := Lib.hid hcut
  have hV : spV s.data.toList = ⟨numV p.data.toList, numV q.data.toList⟩ := by rw [spV, hp, hq]
  have hB : spB s.data.toList = (numB p.data.toList && (numB q.data.toList && spanB ⟨numV p.data.toList, numV q.data.toList⟩)) := by rw [spB, hV, hp, hq]
  have HV := Lib.hid hV
  clear hV hcut hm hm' hle hp hq hf
  have go : ∀ w1 : World, Ext (w.alloc (.cells #[.int .i64 0, .int .i64 0] 60)) w1 → TabW w1 ∧ ErrW w1 := fun w1 h => ⟨ht.ext (xb.trans h), he.ext (xb.trans h)⟩
  have HG := Lib.hid go
  clear go ht he
  cases h1 : numB p.data.toList
  · rw [h1, Bool.false_and] at hB
    have HB := Lib.hid (And.intro h1 hB)
    clear h1 hB
    cases h2 : numB q.data.toList
    all_goals
      have HQ := Lib.hid h2
      clear h2
      go_enter Tryz.func93, Tryz.ntmps93
      go_wp2_with fail
      refine HC.out.mono ?_
      rintro e w1 ⟨rfl, nq, rfl⟩
      have x1 : Ext (w.alloc (.cells #[.int .i64 0, .int .i64 0] 60)) ((w.alloc (.cells #[.int .i64 0, .int .i64 0] 60)).drewN nq) := (Still.refl _).drewN nq |>.ext
      generalize (w.alloc (.cells #[.int .i64 0, .int .i64 0] 60)).drewN nq = w1 at x1 ⊢
      go_wp2_with fail
      refine (readNumber_any p _ hps (HG.out _ x1).1 (HG.out _ x1).2).mono ?_
      rintro e w2 ⟨rfl, e2⟩
      rw [HB.out.1]
      have x2 := x1.trans e2
      go_wp2_with fail
      refine (readNumber_any q _ hqs (HG.out _ x2).1 (HG.out _ x2).2).mono ?_
      rintro e w3 ⟨rfl, e3⟩
      rw [HQ.out]
      have x3 := x2.trans e3
      have x4 := x3.alloc (.cells #[.int .i64 (numV p.data.toList), .int .i64 (numV q.data.toList)] 60)
      have b0 : _ = some (Value.int .i64 0) := box_keptG x4 0
      have b1 : _ = some (Value.int .i64 0) := box_keptG x4 1
      have f0 := box_frozen x4 0
      have f1 := box_frozen x4 1
      go_wp2
      go_region
    all_goals
      go_wp2
      exact bodyPost_ret (v := .tuple #[.agg #[.int .i64 (numV p.data.toList), .int .i64 (numV q.data.toList)], .bool false]) (by simp [results, Tryz.results93, go_sem, b0, b1]) rfl ⟨by rw [HV.out, HB.out.2]; rfl, (((xb.trans x4).setCell (p := ⟨w.heap.size, 0, none⟩) (Nat.le_refl _) _).setCell (p := ⟨w.heap.size, 1, none⟩) (Nat.le_refl _) _).drew⟩
  · rw [h1, Bool.true_and] at hB
    have HB := Lib.hid (And.intro h1 hB)
    clear h1 hB
    cases h2 : numB q.data.toList
    all_goals
      have HQ := Lib.hid h2
      clear h2
      go_enter Tryz.func93, Tryz.ntmps93
      go_wp2_with fail
      refine HC.out.mono ?_
      rintro e w1 ⟨rfl, nq, rfl⟩
      have x1 : Ext (w.alloc (.cells #[.int .i64 0, .int .i64 0] 60)) ((w.alloc (.cells #[.int .i64 0, .int .i64 0] 60)).drewN nq) := (Still.refl _).drewN nq |>.ext
      generalize (w.alloc (.cells #[.int .i64 0, .int .i64 0] 60)).drewN nq = w1 at x1 ⊢
      go_wp2_with fail
      refine (readNumber_any p _ hps (HG.out _ x1).1 (HG.out _ x1).2).mono ?_
      rintro e w2 ⟨rfl, e2⟩
      rw [HB.out.1]
      have x2 := x1.trans e2
      go_wp2_with fail
      refine (readNumber_any q _ hqs (HG.out _ x2).1 (HG.out _ x2).2).mono ?_
      rintro e w3 ⟨rfl, e3⟩
      rw [HQ.out]
      have x3 := x2.trans e3
      have x4 := x3.alloc (.cells #[.int .i64 (numV p.data.toList), .int .i64 (numV q.data.toList)] 60)
      have b0 : _ = some (Value.int .i64 0) := box_keptG x4 0
      have b1 : _ = some (Value.int .i64 0) := box_keptG x4 1
      have f0 := box_frozen x4 0
      have f1 := box_frozen x4 1
      go_wp2
    · go_region
      go_wp2
      exact bodyPost_ret (v := .tuple #[.agg #[.int .i64 (numV p.data.toList), .int .i64 (numV q.data.toList)], .bool false]) (by simp [results, Tryz.results93, go_sem, b0, b1]) rfl ⟨by rw [HV.out, HB.out.2, HQ.out]; rfl, (((xb.trans x4).setCell (p := ⟨w.heap.size, 0, none⟩) (Nat.le_refl _) _).setCell (p := ⟨w.heap.size, 1, none⟩) (Nat.le_refl _) _).drew⟩
    · have hI : ∀ w0 : World, Calls Tryz.prog 98 #[.agg #[.int .i64 (numV p.data.toList), .int .i64 (numV q.data.toList)]] w0 fun e w' => e = .returned (.bool (spanB ⟨numV p.data.toList, numV q.data.toList⟩)) ∧ Ext w0 w' := implIsSpan_any ⟨_, _⟩
--WALK
      refine wp_region_any (by kernel_rfl) ?_
      try (change wpAny _ _ _ _ _ _ _ (World.drew _))
      refine takeYes 1 32 ?v1 rfl rfl (by kernel_rfl) (by kernel_rfl) (by kernel_rfl) (fun _ _ _ _ h => h) (by kernel_rfl) ?y1 ?r1
      case y1 => intro w; go_simp; first | done | with_reducible rfl
      simp only [Act.put, List.setIfInBounds_toArray, List.set_cons_zero, List.set_cons_succ]
      refine takeYes 2 33 ?v2 rfl rfl (by kernel_rfl) (by kernel_rfl) (by kernel_rfl) (fun _ _ _ _ h => h) (by kernel_rfl) ?y2 ?r2
      case y2 => intro w; go_simp; first | done | with_reducible rfl
      simp only [Act.put, List.setIfInBounds_toArray, List.set_cons_zero, List.set_cons_succ]
      refine takeYes 3 34 ?v3 rfl rfl (by kernel_rfl) (by kernel_rfl) (by kernel_rfl) (fun _ _ _ _ h => h) (by kernel_rfl) ?y3 ?r3
      case y3 => intro w; go_simp; first | done | with_reducible rfl
      simp only [Act.put, List.setIfInBounds_toArray, List.set_cons_zero, List.set_cons_succ]
      refine takeYes 4 35 ?v4 rfl rfl (by kernel_rfl) (by kernel_rfl) (by kernel_rfl) (fun _ _ _ _ h => h) (by kernel_rfl) ?y4 ?r4
      case y4 => intro w; go_simp; first | done | with_reducible rfl
      simp only [Act.put, List.setIfInBounds_toArray, List.set_cons_zero, List.set_cons_succ]
      refine takeYes 5 36 ?v5 rfl rfl (by kernel_rfl) (by kernel_rfl) (by kernel_rfl) (fun _ _ _ _ h => h) (by kernel_rfl) ?y5 ?r5
      case y5 => intro w; go_simp; first | done | with_reducible rfl
      simp only [Act.put, List.setIfInBounds_toArray, List.set_cons_zero, List.set_cons_succ]
      refine wpAny_ready (rs := [0, 6]) (by kernel_rfl) (by simp) ?_
      refine AllReady.cons rfl (fun K hK => ?_) (AllReady.cons rfl (fun K hK => ?_) AllReady.nil)
      · go_simp
        refine hK _ _ ?_
        clear hK K
        try simp only [Act.put, List.setIfInBounds_toArray, List.set_cons_zero, List.set_cons_succ]
        refine wpAny_ready (rs := [6]) (by kernel_rfl) (by simp) ?_
        refine AllReady.cons rfl (fun K hK => ?_) AllReady.nil
        go_simp
        refine hK _ _ ?_
        clear hK K
        try simp only [Act.put, List.setIfInBounds_toArray, List.set_cons_zero, List.set_cons_succ]
        refine wpAny_ready (rs := [7]) (by kernel_rfl) (by simp) ?_
        refine AllReady.cons rfl (fun K hK => ?_) AllReady.nil
        go_simp
        refine (hI _).mono ?_
        rintro e w5 ⟨rfl, e5⟩
        have x5 := x4.drew.trans e5
        have z0 : _ = some (Value.int .i64 (numV p.data.toList)) := box_keptG ((Ext.refl _).drew.trans e5) 0
        have z1 : _ = some (Value.int .i64 (numV q.data.toList)) := box_keptG ((Ext.refl _).drew.trans e5) 1
        have g0 : _ = some (Value.int .i64 0) := box_keptG x5 0
        have g1 : _ = some (Value.int .i64 0) := box_keptG x5 1
        have y0 := box_frozen x5 0
        have y1 := box_frozen x5 1
        clear hI b0 b1 f0 f1
        go_wp2_with fail
        try simp only [Act.put, List.setIfInBounds_toArray, List.set_cons_zero, List.set_cons_succ]
        refine takeYes 8 39 ?v6 rfl rfl (by kernel_rfl) (by kernel_rfl) (by kernel_rfl) (fun _ _ _ _ h => h) (by kernel_rfl) ?y6 ?r6
        case y6 => intro w; go_simp; first | done | with_reducible rfl
        simp only [Act.put, List.setIfInBounds_toArray, List.set_cons_zero, List.set_cons_succ]
        refine wpAny_ready (rs := [9]) (by kernel_rfl) (by simp) ?_
        refine AllReady.cons rfl (fun K hK => ?_) AllReady.nil
        go_simp
        refine hK _ _ ?_
        clear hK K
        try simp only [Act.put, List.setIfInBounds_toArray, List.set_cons_zero, List.set_cons_succ]
        refine takeYes 10 3 ?v7 rfl rfl (by kernel_rfl) (by kernel_rfl) (by kernel_rfl) (fun _ _ _ _ h => h) (by kernel_rfl) ?y7 ?r7
        case y7 => intro w; go_simp; first | done | with_reducible rfl
        simp only [Act.put, List.setIfInBounds_toArray, List.set_cons_zero, List.set_cons_succ]
        refine wpAny_done (by kernel_rfl) ?_ _
        go_wp2
        exact bodyPost_ret (v := .tuple #[.agg #[.int .i64 (numV p.data.toList), .int .i64 (numV q.data.toList)], .bool (spanB ⟨numV p.data.toList, numV q.data.toList⟩)]) (by simp [results, Tryz.results93, go_sem, g0, g1]) rfl ⟨by rw [HV.out, HB.out.2, HQ.out]; rfl, ((xb.trans x5).setCell (p := ⟨w.heap.size, 0, none⟩) (Nat.le_refl _) _).setCell (p := ⟨w.heap.size, 1, none⟩) (Nat.le_refl _) _⟩
      · go_simp
        refine hK _ _ ?_
        clear hK K
        try simp only [Act.put, List.setIfInBounds_toArray, List.set_cons_zero, List.set_cons_succ]
        refine wpAny_ready (rs := [0, 7]) (by kernel_rfl) (by simp) ?_
        refine AllReady.cons rfl (fun K hK => ?_) (AllReady.cons rfl (fun K hK => ?_) AllReady.nil)
        · go_simp
          refine hK _ _ ?_
          clear hK K
          try simp only [Act.put, List.setIfInBounds_toArray, List.set_cons_zero, List.set_cons_succ]
          refine wpAny_ready (rs := [7]) (by kernel_rfl) (by simp) ?_
          refine AllReady.cons rfl (fun K hK => ?_) AllReady.nil
          go_simp
          refine (hI _).mono ?_
          rintro e w5 ⟨rfl, e5⟩
          have x5 := x4.drew.trans e5
          have z0 : _ = some (Value.int .i64 (numV p.data.toList)) := box_keptG ((Ext.refl _).drew.trans e5) 0
          have z1 : _ = some (Value.int .i64 (numV q.data.toList)) := box_keptG ((Ext.refl _).drew.trans e5) 1
          have g0 : _ = some (Value.int .i64 0) := box_keptG x5 0
          have g1 : _ = some (Value.int .i64 0) := box_keptG x5 1
          have y0 := box_frozen x5 0
          have y1 := box_frozen x5 1
          clear hI b0 b1 f0 f1
          go_wp2_with fail
          try simp only [Act.put, List.setIfInBounds_toArray, List.set_cons_zero, List.set_cons_succ]
          refine takeYes 8 39 ?v8 rfl rfl (by kernel_rfl) (by kernel_rfl) (by kernel_rfl) (fun _ _ _ _ h => h) (by kernel_rfl) ?y8 ?r8
          case y8 => intro w; go_simp; first | done | with_reducible rfl
          simp only [Act.put, List.setIfInBounds_toArray, List.set_cons_zero, List.set_cons_succ]
          refine wpAny_ready (rs := [9]) (by kernel_rfl) (by simp) ?_
          refine AllReady.cons rfl (fun K hK => ?_) AllReady.nil
          go_simp
          refine hK _ _ ?_
          clear hK K
          try simp only [Act.put, List.setIfInBounds_toArray, List.set_cons_zero, List.set_cons_succ]
          refine takeYes 10 3 ?v9 rfl rfl (by kernel_rfl) (by kernel_rfl) (by kernel_rfl) (fun _ _ _ _ h => h) (by kernel_rfl) ?y9 ?r9
          case y9 => intro w; go_simp; first | done | with_reducible rfl
          simp only [Act.put, List.setIfInBounds_toArray, List.set_cons_zero, List.set_cons_succ]
          refine wpAny_done (by kernel_rfl) ?_ _
          go_wp2
          exact bodyPost_ret (v := .tuple #[.agg #[.int .i64 (numV p.data.toList), .int .i64 (numV q.data.toList)], .bool (spanB ⟨numV p.data.toList, numV q.data.toList⟩)]) (by simp [results, Tryz.results93, go_sem, g0, g1]) rfl ⟨by rw [HV.out, HB.out.2, HQ.out]; rfl, ((xb.trans x5).setCell (p := ⟨w.heap.size, 0, none⟩) (Nat.le_refl _) _).setCell (p := ⟨w.heap.size, 1, none⟩) (Nat.le_refl _) _⟩
        · go_simp
          refine (hI _).mono ?_
          rintro e w5 ⟨rfl, e5⟩
          have x5 := x4.drew.trans e5
          have z0 : _ = some (Value.int .i64 (numV p.data.toList)) := box_keptG ((Ext.refl _).drew.trans e5) 0
          have z1 : _ = some (Value.int .i64 (numV q.data.toList)) := box_keptG ((Ext.refl _).drew.trans e5) 1
          have g0 : _ = some (Value.int .i64 0) := box_keptG x5 0
          have g1 : _ = some (Value.int .i64 0) := box_keptG x5 1
          have y0 := box_frozen x5 0
          have y1 := box_frozen x5 1
          clear hI b0 b1 f0 f1
          go_wp2_with fail
          try simp only [Act.put, List.setIfInBounds_toArray, List.set_cons_zero, List.set_cons_succ]
          refine takeYes 8 39 ?v10 rfl rfl (by kernel_rfl) (by kernel_rfl) (by kernel_rfl) (fun _ _ _ _ h => h) (by kernel_rfl) ?y10 ?r10
          case y10 => intro w; go_simp; first | done | with_reducible rfl
          simp only [Act.put, List.setIfInBounds_toArray, List.set_cons_zero, List.set_cons_succ]
          refine wpAny_ready (rs := [0]) (by kernel_rfl) (by simp) ?_
          refine AllReady.cons rfl (fun K hK => ?_) AllReady.nil
          go_simp
          refine hK _ _ ?_
          clear hK K
          try simp only [Act.put, List.setIfInBounds_toArray, List.set_cons_zero, List.set_cons_succ]
          refine wpAny_ready (rs := [9]) (by kernel_rfl) (by simp) ?_
          refine AllReady.cons rfl (fun K hK => ?_) AllReady.nil
          go_simp
          refine hK _ _ ?_
          clear hK K
          try simp only [Act.put, List.setIfInBounds_toArray, List.set_cons_zero, List.set_cons_succ]
          refine takeYes 10 3 ?v11 rfl rfl (by kernel_rfl) (by kernel_rfl) (by kernel_rfl) (fun _ _ _ _ h => h) (by kernel_rfl) ?y11 ?r11
          case y11 => intro w; go_simp; first | done | with_reducible rfl
          simp only [Act.put, List.setIfInBounds_toArray, List.set_cons_zero, List.set_cons_succ]
          refine wpAny_done (by kernel_rfl) ?_ _
          go_wp2
          exact bodyPost_ret (v := .tuple #[.agg #[.int .i64 (numV p.data.toList), .int .i64 (numV q.data.toList)], .bool (spanB ⟨numV p.data.toList, numV q.data.toList⟩)]) (by simp [results, Tryz.results93, go_sem, g0, g1]) rfl ⟨by rw [HV.out, HB.out.2, HQ.out]; rfl, ((xb.trans x5).setCell (p := ⟨w.heap.size, 0, none⟩) (Nat.le_refl _) _).setCell (p := ⟨w.heap.size, 1, none⟩) (Nat.le_refl _) _⟩

end Go.Proofs.YtajgjccnhippcaaGreatDoor

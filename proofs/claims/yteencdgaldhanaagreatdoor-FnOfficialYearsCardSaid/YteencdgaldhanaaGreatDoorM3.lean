/-
  Texts of this claim, put together.
-/
import Derived.Test.YteencdgaldhanaaGreatDoorKSpan

section
namespace Go.Proofs.YteencdgaldhanaaGreatDoor
open Go.RowKit

/-- A set of years. -/
def setB (zs : List SpanV) : Prop := (∀ z ∈ zs, spanB z = true) ∧ (zs.Pairwise fun a b => a.to_ + 2 ≤ b.from_) ∧ zs.length ≤ 12

set_option maxRecDepth 100000 in
set_option maxHeartbeats 2000000 in
theorem areYears_any (a : Option Addr) (n c : Nat) (zs : List SpanV) (w : World) (hr : RdSpan w a n zs) (hz : setB zs) :
    Calls Tryz.prog 77 #[.slice a n c] w fun e w' => e = .returned (.bool true) ∧ Ext w w' := by
  have hm := hr.le
  have hln := hr.len
  have h12 : (n : Int) ≤ 12 := by have := hz.2.2; omega
  have HZ := Lib.hid hz
  clear hz
  go_enter Tryz.func77, Tryz.ntmps77
  go_wp2
  go_loopw [7] (fun i wr => ∃ k : Nat, k ≤ n ∧ i = .int .i64 k ∧ Ext w wr) (fun i _ => n - (intOf i).toNat)
  case atStart => exact ⟨0, Nat.zero_le _, rfl, Ext.refl _⟩
  case round =>
    obtain ⟨k, hk, rfl, hx⟩ := hrel
    by_cases hlt : k < n
    · obtain ⟨b, o, rfl, hbl, hA⟩ := (hr.ext hx).at (by omega)
      obtain ⟨d0, d1⟩ := hA k hlt
      have hgood := HZ.out.1 (nthSpan zs k) (List.mem_of_getElem? (nthSpan_get (by omega)))
      have hki : (k : Int) < n := by omega
      rcases k with _ | j
      · simp only [Nat.zero_mul, Nat.add_zero] at d0 d1
        generalize nthSpan zs 0 = x at *
        obtain ⟨x0, x1⟩ := x
        simp only at d0 d1
        have HG := Lib.hid hgood
        clear hgood hA
        go_wp2
        refine wp_region_held_drew (S := Ext (wr.alloc (.cells #[.int .i64 x0, .int .i64 x1] 60))) (by kernel_rfl) (Ext.refl _).drew (fun hHeld => ?_)
        generalize hwd : World.drew _ = wd at hHeld ⊢
        clear hwd
        refine takeYesH 0 12 ?v1 rfl rfl (by kernel_rfl) (by kernel_rfl) (by kernel_rfl) (fun _ _ _ _ h => h) (by kernel_rfl) hHeld ?y1 ?r1
        case y1 =>
          intro wq hq
          have z0 : wq.cell? ⟨wr.heap.size, 0, none⟩ = some (.int .i64 x0) := box_keptG hq 0
          have z1 : wq.cell? ⟨wr.heap.size, 1, none⟩ = some (.int .i64 x1) := box_keptG hq 1
          go_simp
          first | done | with_reducible rfl
        simp only [Act.put, List.setIfInBounds_toArray, List.set_cons_zero, List.set_cons_succ]
        refine wpAnyH_ready (rs := [1]) (by kernel_rfl) (by simp) ?_
        refine AllReadyH.cons rfl (fun K hK => ?_) AllReadyH.nil
        go_simp
        refine (implIsSpan_any ⟨x0, x1⟩ _).mono ?_
        rintro e w4 ⟨rfl, x4⟩
        rw [HG.out]
        go_wp2_with fail
        refine hK.out _ _ (hHeld.trans x4) (fun hHeld => ?_)
        clear hK K
        try simp only [Act.put, List.setIfInBounds_toArray, List.set_cons_zero, List.set_cons_succ]
        refine takeYesH 2 14 ?v2 rfl rfl (by kernel_rfl) (by kernel_rfl) (by kernel_rfl) (fun _ _ _ _ h => h) (by kernel_rfl) hHeld ?y2 ?r2
        case y2 => intro wq hq; go_simp; first | done | with_reducible rfl
        simp only [Act.put, List.setIfInBounds_toArray, List.set_cons_zero, List.set_cons_succ]
        refine takeYesH 3 15 ?v3 rfl rfl (by kernel_rfl) (by kernel_rfl) (by kernel_rfl) (fun _ _ _ _ h => h) (by kernel_rfl) hHeld ?y3 ?r3
        case y3 => intro wq hq; go_simp; first | done | with_reducible rfl
        simp only [Act.put, List.setIfInBounds_toArray, List.set_cons_zero, List.set_cons_succ]
        refine takeYesH 4 16 ?v4 rfl rfl (by kernel_rfl) (by kernel_rfl) (by kernel_rfl) (fun _ _ _ _ h => h) (by kernel_rfl) hHeld ?y4 ?r4
        case y4 => intro wq hq; go_simp; first | done | with_reducible rfl
        simp only [Act.put, List.setIfInBounds_toArray, List.set_cons_zero, List.set_cons_succ]
        refine takeYesH 5 17 ?v5 rfl rfl (by kernel_rfl) (by kernel_rfl) (by kernel_rfl) (fun _ _ _ _ h => h) (by kernel_rfl) hHeld ?y5 ?r5
        case y5 => intro wq hq; go_simp; first | done | with_reducible rfl
        simp only [Act.put, List.setIfInBounds_toArray, List.set_cons_zero, List.set_cons_succ]
        refine takeYesH 6 18 ?v6 rfl rfl (by kernel_rfl) (by kernel_rfl) (by kernel_rfl) (fun _ _ _ _ h => h) (by kernel_rfl) hHeld ?y6 ?r6
        case y6 => intro wq hq; go_simp; first | done | with_reducible rfl
        simp only [Act.put, List.setIfInBounds_toArray, List.set_cons_zero, List.set_cons_succ]
        refine takeNoH 7 19 rfl rfl (by kernel_rfl) (by kernel_rfl) (by kernel_rfl) (fun _ _ _ _ h => h) (by kernel_rfl) hHeld ?_
        simp only [Act.put, List.setIfInBounds_toArray, List.set_cons_zero, List.set_cons_succ]
        refine takeNoH 8 20 rfl rfl (by kernel_rfl) (by kernel_rfl) (by kernel_rfl) (fun _ _ _ _ h => h) (by kernel_rfl) hHeld ?_
        simp only [Act.put, List.setIfInBounds_toArray, List.set_cons_zero, List.set_cons_succ]
        refine takeNoH 9 21 rfl rfl (by kernel_rfl) (by kernel_rfl) (by kernel_rfl) (fun _ _ _ _ h => h) (by kernel_rfl) hHeld ?_
        simp only [Act.put, List.setIfInBounds_toArray, List.set_cons_zero, List.set_cons_succ]
        refine takeNoH 10 22 rfl rfl (by kernel_rfl) (by kernel_rfl) (by kernel_rfl) (fun _ _ _ _ h => h) (by kernel_rfl) hHeld ?_
        simp only [Act.put, List.setIfInBounds_toArray, List.set_cons_zero, List.set_cons_succ]
        refine takeNoH 11 23 rfl rfl (by kernel_rfl) (by kernel_rfl) (by kernel_rfl) (fun _ _ _ _ h => h) (by kernel_rfl) hHeld ?_
        simp only [Act.put, List.setIfInBounds_toArray, List.set_cons_zero, List.set_cons_succ]
        refine takeNoH 12 24 rfl rfl (by kernel_rfl) (by kernel_rfl) (by kernel_rfl) (fun _ _ _ _ h => h) (by kernel_rfl) hHeld ?_
        simp only [Act.put, List.setIfInBounds_toArray, List.set_cons_zero, List.set_cons_succ]
        refine takeNoH 13 25 rfl rfl (by kernel_rfl) (by kernel_rfl) (by kernel_rfl) (fun _ _ _ _ h => h) (by kernel_rfl) hHeld ?_
        simp only [Act.put, List.setIfInBounds_toArray, List.set_cons_zero, List.set_cons_succ]
        refine takeNoH 14 26 rfl rfl (by kernel_rfl) (by kernel_rfl) (by kernel_rfl) (fun _ _ _ _ h => h) (by kernel_rfl) hHeld ?_
        simp only [Act.put, List.setIfInBounds_toArray, List.set_cons_zero, List.set_cons_succ]
        refine takeNoH 15 27 rfl rfl (by kernel_rfl) (by kernel_rfl) (by kernel_rfl) (fun _ _ _ _ h => h) (by kernel_rfl) hHeld ?_
        simp only [Act.put, List.setIfInBounds_toArray, List.set_cons_zero, List.set_cons_succ]
        refine takeNoH 16 28 rfl rfl (by kernel_rfl) (by kernel_rfl) (by kernel_rfl) (fun _ _ _ _ h => h) (by kernel_rfl) hHeld ?_
        simp only [Act.put, List.setIfInBounds_toArray, List.set_cons_zero, List.set_cons_succ]
        refine takeYesH 17 29 ?v7 rfl rfl (by kernel_rfl) (by kernel_rfl) (by kernel_rfl) (fun _ _ _ _ h => h) (by kernel_rfl) hHeld ?y7 ?r7
        case y7 => intro wq hq; go_simp; first | done | with_reducible rfl
        simp only [Act.put, List.setIfInBounds_toArray, List.set_cons_zero, List.set_cons_succ]
        refine takeYesH 18 30 ?v8 rfl rfl (by kernel_rfl) (by kernel_rfl) (by kernel_rfl) (fun _ _ _ _ h => h) (by kernel_rfl) hHeld ?y8 ?r8
        case y8 => intro wq hq; go_simp; first | done | with_reducible rfl
        simp only [Act.put, List.setIfInBounds_toArray, List.set_cons_zero, List.set_cons_succ]
        refine wpAnyH_done (by kernel_rfl) ?_ _
        go_wp2
        go_roundw
        case rel => exact ⟨1, by omega, by go_num, hx.trans (((Ext.refl wr).alloc _).trans hHeld)⟩
        case measure => simp only [intOf]; omega
      · obtain ⟨_, e1⟩ := hA j (by omega)
        have hgp := HZ.out.1 (nthSpan zs j) (List.mem_of_getElem? (nthSpan_get (by omega)))
        have hap : (nthSpan zs j).to_ + 2 ≤ (nthSpan zs (j + 1)).from_ := by
          have := List.pairwise_iff_getElem.1 HZ.out.2.1 j (j + 1) (by omega) (by omega) (by omega)
          rw [nthSpan_eq (by omega), nthSpan_eq (by omega)]; exact this
        have hpb := spanB_iff.1 hgp
        generalize nthSpan zs (j + 1) = x at *
        generalize nthSpan zs j = p at *
        obtain ⟨x0, x1⟩ := x
        obtain ⟨p0, p1⟩ := p
        simp only at d0 d1 e1 hap hpb
        have HG := Lib.hid hgood
        have hw2 : IntKind.i64.wrap (p1 + 2) = p1 + 2 := IntWalk.i64_in _ (by omega)
        have hcmp : ¬ x0 < p1 + 2 := by omega
        have hj0 : (0 : Int) < (j : Int) + 1 := by omega
        have hjv : IntKind.i64.wrap (j : Int) = j := IntWalk.i64_in _ (by omega)
        have hjn : j < n := by omega
        have hji : (j : Int) < n := by omega
        clear hgood hA hgp hpb
        go_wp2
        refine wp_region_held_drew (S := Ext (wr.alloc (.cells #[.int .i64 x0, .int .i64 x1] 60))) (by kernel_rfl) (Ext.refl _).drew (fun hHeld => ?_)
        generalize hwd : World.drew _ = wd at hHeld ⊢
        clear hwd
        refine takeYesH 0 12 ?v9 rfl rfl (by kernel_rfl) (by kernel_rfl) (by kernel_rfl) (fun _ _ _ _ h => h) (by kernel_rfl) hHeld ?y9 ?r9
        case y9 =>
          intro wq hq
          have z0 : wq.cell? ⟨wr.heap.size, 0, none⟩ = some (.int .i64 x0) := box_keptG hq 0
          have z1 : wq.cell? ⟨wr.heap.size, 1, none⟩ = some (.int .i64 x1) := box_keptG hq 1
          have z2 := (Below.cell (((Ext.refl wr).alloc _).trans hq) (p := ⟨b, o + j * 2 + 1, none⟩) hbl).trans e1
          go_simp
          first | done | with_reducible rfl
        simp only [Act.put, List.setIfInBounds_toArray, List.set_cons_zero, List.set_cons_succ]
        refine wpAnyH_ready (rs := [1]) (by kernel_rfl) (by simp) ?_
        refine AllReadyH.cons rfl (fun K hK => ?_) AllReadyH.nil
        go_simp
        refine (implIsSpan_any ⟨x0, x1⟩ _).mono ?_
        rintro e w4 ⟨rfl, x4⟩
        rw [HG.out]
        go_wp2_with fail
        refine hK.out _ _ (hHeld.trans x4) (fun hHeld => ?_)
        clear hK K
        try simp only [Act.put, List.setIfInBounds_toArray, List.set_cons_zero, List.set_cons_succ]
        refine takeYesH 2 14 ?v10 rfl rfl (by kernel_rfl) (by kernel_rfl) (by kernel_rfl) (fun _ _ _ _ h => h) (by kernel_rfl) hHeld ?y10 ?r10
        case y10 => intro wq hq; go_simp; first | done | with_reducible rfl
        simp only [Act.put, List.setIfInBounds_toArray, List.set_cons_zero, List.set_cons_succ]
        refine takeYesH 3 15 ?v11 rfl rfl (by kernel_rfl) (by kernel_rfl) (by kernel_rfl) (fun _ _ _ _ h => h) (by kernel_rfl) hHeld ?y11 ?r11
        case y11 => intro wq hq; go_simp; first | done | with_reducible rfl
        simp only [Act.put, List.setIfInBounds_toArray, List.set_cons_zero, List.set_cons_succ]
        refine takeYesH 4 16 ?v12 rfl rfl (by kernel_rfl) (by kernel_rfl) (by kernel_rfl) (fun _ _ _ _ h => h) (by kernel_rfl) hHeld ?y12 ?r12
        case y12 => intro wq hq; go_simp; first | done | with_reducible rfl
        simp only [Act.put, List.setIfInBounds_toArray, List.set_cons_zero, List.set_cons_succ]
        refine takeYesH 5 17 ?v13 rfl rfl (by kernel_rfl) (by kernel_rfl) (by kernel_rfl) (fun _ _ _ _ h => h) (by kernel_rfl) hHeld ?y13 ?r13
        case y13 => intro wq hq; go_simp; first | done | with_reducible rfl
        simp only [Act.put, List.setIfInBounds_toArray, List.set_cons_zero, List.set_cons_succ]
        refine takeYesH 6 18 ?v14 rfl rfl (by kernel_rfl) (by kernel_rfl) (by kernel_rfl) (fun _ _ _ _ h => h) (by kernel_rfl) hHeld ?y14 ?r14
        case y14 => intro wq hq; go_simp; first | done | with_reducible rfl
        simp only [Act.put, List.setIfInBounds_toArray, List.set_cons_zero, List.set_cons_succ]
        refine takeYesH 7 19 ?v15 rfl rfl (by kernel_rfl) (by kernel_rfl) (by kernel_rfl) (fun _ _ _ _ h => h) (by kernel_rfl) hHeld ?y15 ?r15
        case y15 => intro wq hq; go_simp; first | done | with_reducible rfl
        simp only [Act.put, List.setIfInBounds_toArray, List.set_cons_zero, List.set_cons_succ]
        refine takeYesH 8 20 ?v16 rfl rfl (by kernel_rfl) (by kernel_rfl) (by kernel_rfl) (fun _ _ _ _ h => h) (by kernel_rfl) hHeld ?y16 ?r16
        case y16 =>
          intro wq hq
          have z0 : wq.cell? ⟨wr.heap.size, 0, none⟩ = some (.int .i64 x0) := box_keptG hq 0
          have z1 : wq.cell? ⟨wr.heap.size, 1, none⟩ = some (.int .i64 x1) := box_keptG hq 1
          have z2 := (Below.cell (((Ext.refl wr).alloc _).trans hq) (p := ⟨b, o + j * 2 + 1, none⟩) hbl).trans e1
          go_simp
          first | done | with_reducible rfl
        simp only [Act.put, List.setIfInBounds_toArray, List.set_cons_zero, List.set_cons_succ]
        refine takeYesH 9 21 ?v17 rfl rfl (by kernel_rfl) (by kernel_rfl) (by kernel_rfl) (fun _ _ _ _ h => h) (by kernel_rfl) hHeld ?y17 ?r17
        case y17 => intro wq hq; go_simp; first | done | with_reducible rfl
        simp only [Act.put, List.setIfInBounds_toArray, List.set_cons_zero, List.set_cons_succ]
        refine takeYesH 10 22 ?v18 rfl rfl (by kernel_rfl) (by kernel_rfl) (by kernel_rfl) (fun _ _ _ _ h => h) (by kernel_rfl) hHeld ?y18 ?r18
        case y18 => intro wq hq; go_simp; first | done | with_reducible rfl
        simp only [Act.put, List.setIfInBounds_toArray, List.set_cons_zero, List.set_cons_succ]
        refine takeYesH 11 23 ?v19 rfl rfl (by kernel_rfl) (by kernel_rfl) (by kernel_rfl) (fun _ _ _ _ h => h) (by kernel_rfl) hHeld ?y19 ?r19
        case y19 => intro wq hq; go_simp; first | done | with_reducible rfl
        simp only [Act.put, List.setIfInBounds_toArray, List.set_cons_zero, List.set_cons_succ]
        refine takeYesH 12 24 ?v20 rfl rfl (by kernel_rfl) (by kernel_rfl) (by kernel_rfl) (fun _ _ _ _ h => h) (by kernel_rfl) hHeld ?y20 ?r20
        case y20 => intro wq hq; go_simp; first | done | with_reducible rfl
        simp only [Act.put, List.setIfInBounds_toArray, List.set_cons_zero, List.set_cons_succ]
        refine takeYesH 13 25 ?v21 rfl rfl (by kernel_rfl) (by kernel_rfl) (by kernel_rfl) (fun _ _ _ _ h => h) (by kernel_rfl) hHeld ?y21 ?r21
        case y21 => intro wq hq; go_simp; first | done | with_reducible rfl
        simp only [Act.put, List.setIfInBounds_toArray, List.set_cons_zero, List.set_cons_succ]
        refine takeYesH 14 26 ?v22 rfl rfl (by kernel_rfl) (by kernel_rfl) (by kernel_rfl) (fun _ _ _ _ h => h) (by kernel_rfl) hHeld ?y22 ?r22
        case y22 =>
          intro wq hq
          have z0 : wq.cell? ⟨wr.heap.size, 0, none⟩ = some (.int .i64 x0) := box_keptG hq 0
          have z1 : wq.cell? ⟨wr.heap.size, 1, none⟩ = some (.int .i64 x1) := box_keptG hq 1
          have z2 := (Below.cell (((Ext.refl wr).alloc _).trans hq) (p := ⟨b, o + j * 2 + 1, none⟩) hbl).trans e1
          go_simp
          first | done | with_reducible rfl
        simp only [Act.put, List.setIfInBounds_toArray, List.set_cons_zero, List.set_cons_succ]
        refine takeYesH 15 27 ?v23 rfl rfl (by kernel_rfl) (by kernel_rfl) (by kernel_rfl) (fun _ _ _ _ h => h) (by kernel_rfl) hHeld ?y23 ?r23
        case y23 => intro wq hq; go_simp; first | done | with_reducible rfl
        simp only [Act.put, List.setIfInBounds_toArray, List.set_cons_zero, List.set_cons_succ]
        refine takeYesH 16 28 ?v24 rfl rfl (by kernel_rfl) (by kernel_rfl) (by kernel_rfl) (fun _ _ _ _ h => h) (by kernel_rfl) hHeld ?y24 ?r24
        case y24 => intro wq hq; go_simp; first | done | with_reducible rfl
        simp only [Act.put, List.setIfInBounds_toArray, List.set_cons_zero, List.set_cons_succ]
        refine takeYesH 17 29 ?v25 rfl rfl (by kernel_rfl) (by kernel_rfl) (by kernel_rfl) (fun _ _ _ _ h => h) (by kernel_rfl) hHeld ?y25 ?r25
        case y25 => intro wq hq; go_simp; first | done | with_reducible rfl
        simp only [Act.put, List.setIfInBounds_toArray, List.set_cons_zero, List.set_cons_succ]
        refine takeYesH 18 30 ?v26 rfl rfl (by kernel_rfl) (by kernel_rfl) (by kernel_rfl) (fun _ _ _ _ h => h) (by kernel_rfl) hHeld ?y26 ?r26
        case y26 => intro wq hq; go_simp; first | done | with_reducible rfl
        simp only [Act.put, List.setIfInBounds_toArray, List.set_cons_zero, List.set_cons_succ]
        refine wpAnyH_done (by kernel_rfl) ?_ _
        go_wp2
        go_roundw
        case rel => exact ⟨j + 1 + 1, by omega, by go_num, hx.trans (((Ext.refl wr).alloc _).trans hHeld)⟩
        case measure => simp only [intOf]; omega
    · obtain rfl : k = n := by omega
      go_wp2
      go_ret
      exact ⟨rfl, hx⟩

set_option maxRecDepth 100000 in
set_option maxHeartbeats 400000 in
theorem idxHasY_any (a : Option Addr) (n c : Nat) (xs : List SpanV) (p : SpanV → Bool) (q0 : Addr) (w : World) (hr : RdSpan w a n xs) (hk : ∀ w1, Ext w w1 → ∀ k, k < n → Calls Tryz.prog 109 #[valSpan (nthSpan xs k), .pointer (some q0)] w1 fun e w2 => e = .returned (.bool (p (nthSpan xs k))) ∧ Ext w1 w2) :
    Calls Tryz.prog 127 #[.slice a n c, .func (.func 109) #[] #[.pointer (some q0)]] w fun e w' => e = .returned (.int .i64 (idxP p xs)) ∧ Ext w w' := by
  have hm := hr.le
  have hln := hr.len
  have HK := Lib.hid hk
  clear hk
  go_enter Tryz.func127, Tryz.ntmps127
  go_wp2
  go_loopw [8] (fun i wr => ∃ k : Nat, k ≤ n ∧ i = .int .i64 k ∧ (∀ j (hj : j < xs.length), j < k → p xs[j] = false) ∧ Ext w wr) (fun i _ => n - (intOf i).toNat)
  case atStart => exact ⟨0, Nat.zero_le _, rfl, fun j _ h => by omega, Ext.refl _⟩
  case round =>
    obtain ⟨k, hk, rfl, hall, hx⟩ := hrel
    have HA := Lib.hid hall
    clear hall
    by_cases hlt : k < n
    · obtain ⟨b, o, rfl, hbl, hA⟩ := (hr.ext hx).at (by omega)
      obtain ⟨hc0, hc1⟩ := hA k hlt
      clear hA
      have hki : (k : Int) < n := by omega
      have hget : xs[k]'(by omega) = nthSpan xs k := (nthSpan_eq (by omega)).symm
      cases hp : p (nthSpan xs k)
      · have HP := Lib.hid hp
        have HG := Lib.hid hget
        clear hp hget
        go_wp2_with (first | (go_at_call 109; refine (HK.out _ hx k hlt).mono ?_; rintro e w1 ⟨rfl, hx1⟩; rw [HP.out]))
        go_roundw
        case rel =>
          refine ⟨k + 1, by omega, by go_num, fun j hj hjk => ?_, hx.trans hx1⟩
          by_cases e : j = k
          · subst e; rw [HG.out]; exact HP.out
          · exact HA.out j hj (by omega)
        case measure => simp [intOf]; omega
      · have HP := Lib.hid hp
        have HG := Lib.hid hget
        clear hp hget
        go_wp2_with (first | (go_at_call 109; refine (HK.out _ hx k hlt).mono ?_; rintro e w1 ⟨rfl, hx1⟩; rw [HP.out]))
        go_ret
        exact ⟨ret_int (idxP_at (by omega) (by rw [HG.out]; exact HP.out) HA.out).symm, hx.trans hx1⟩
    · obtain rfl : k = n := by omega
      go_wp2
      go_ret
      exact ⟨ret_int (idxP_none (fun j hj => HA.out j hj (by omega))).symm, hx⟩

set_option maxHeartbeats 400000 in
theorem anyHasY_any (a : Option Addr) (n c : Nat) (xs : List SpanV) (p : SpanV → Bool) (q0 : Addr) (w : World) (hr : RdSpan w a n xs) (hk : ∀ w1, Ext w w1 → ∀ k, k < n → Calls Tryz.prog 109 #[valSpan (nthSpan xs k), .pointer (some q0)] w1 fun e w2 => e = .returned (.bool (p (nthSpan xs k))) ∧ Ext w1 w2) :
    Calls Tryz.prog 108 #[.slice a n c, .func (.func 109) #[] #[.pointer (some q0)]] w fun e w' => e = .returned (.bool (anyP p xs)) ∧ Ext w w' := by
  go_enter Tryz.func108, Tryz.ntmps108
  go_wp2_with fail
  refine (idxHasY_any _ _ _ _ p _ _ hr hk).mono ?_
  rintro e w' ⟨rfl, hx⟩
  go_wp2
  go_ret
  exact ⟨ret_bool rfl, hx⟩

def hasYP (y : Int) (x : SpanV) : Bool := inB y x.from_ x.to_
theorem anyP_has (y : Int) (zs : List SpanV) : anyP (hasYP y) zs = hasS2 zs y := by
  have h2 : hasS2 zs y = zs.any (hasYP y) := rfl
  rw [h2, anyP, idxP]
  cases h : zs.findIdx? (hasYP y) with
  | none =>
    rw [List.findIdx?_eq_none_iff] at h
    symm
    simp only [Int.reduceNeg, Int.reduceLE, decide_false, List.any_eq_false]
    intro x hx
    rw [h x hx]; decide
  | some k =>
    have hk := List.findIdx?_eq_some_iff_getElem.1 h
    symm
    simp only [Int.natCast_nonneg, decide_true, List.any_eq_true]
    exact ⟨_, List.getElem_mem hk.1, hk.2.1⟩
theorem hasYearC_any (x : SpanV) (q : Addr) (y : Int) (w : World) (hq : w.cell? q = some (.int .i64 y)) (hql : q.block < w.heap.size) :
    Calls Tryz.prog 109 #[valSpan x, .pointer (some q)] w fun e w' => e = .returned (.bool (hasYP y x)) ∧ Ext w w' := by
  obtain ⟨x0, x1⟩ := x
  simp only [valSpan]
  have hq2 : (w.alloc (.cells #[.int .i64 x0, .int .i64 x1] 60)).cell? q = some (.int .i64 y) := (Below.cell ((Ext.refl w).alloc _) (p := q) hql).trans hq
  go_enter Tryz.func109, Tryz.ntmps109
  go_wp2_with fail
  refine (has_any ⟨x0, x1⟩ y _).mono ?_
  rintro e w1 ⟨rfl, x1'⟩
  go_wp2
  go_ret
  exact ⟨ret_bool rfl, ((Ext.refl w).alloc _).trans x1'⟩
set_option maxRecDepth 100000 in
theorem hasYear_any (a : Option Addr) (n c : Nat) (zs : List SpanV) (y : Int) (w : World) (hr : RdSpan w a n zs) :
    Calls Tryz.prog 78 #[.slice a n c, .int .i64 y] w fun e w' => e = .returned (.bool (hasS2 zs y)) ∧ Ext w w' := by
  have xb : Ext w (w.alloc (.cells #[.int .i64 y] 2)) := (Ext.refl w).alloc _
  go_enter Tryz.func78, Tryz.ntmps78
  go_wp2_with fail
  refine (anyHasY_any _ _ _ zs (hasYP y) _ _ (hr.ext xb) (fun w1 hx k hk => hasYearC_any _ _ y w1 ((Below.cell hx (p := ⟨w.heap.size, 0, none⟩) (by simp)).trans (by rw [World.cell?_alloc_at _ _ _ _ rfl]; rfl)) (Nat.lt_of_lt_of_le (by simp) hx.size))).mono ?_
  rintro e w1 ⟨rfl, x1⟩
  rw [anyP_has]
  go_wp2
  go_ret
  exact ⟨ret_bool rfl, xb.trans x1⟩
set_option maxRecDepth 100000 in
theorem implHasYear_any (a : Option Addr) (n c : Nat) (zs : List SpanV) (y : Int) (w : World) (hr : RdSpan w a n zs) (hz : setB zs) :
    Calls Tryz.prog 40 #[.slice a n c, .int .i64 y] w fun e w' => e = .returned (.tuple #[.bool (hasS2 zs y), .int .i64 0]) ∧ Ext w w' := by
  go_enter Tryz.func40, Tryz.ntmps40
  go_wp2_with fail
  refine (areYears_any _ _ _ _ _ hr hz).mono ?_
  rintro e w1 ⟨rfl, x1⟩
  go_wp2_with fail
  refine (hasYear_any _ _ _ _ y _ (hr.ext x1)).mono ?_
  rintro e w2 ⟨rfl, x2⟩
  go_wp2
  go_ret2
  exact ⟨rfl, x1.trans x2⟩

end Go.Proofs.YteencdgaldhanaaGreatDoor
end

section
namespace Go.Proofs.YteencdgaldhanaaGreatDoor

theorem bld_covers {zs : List SpanV} (h : ∀ z ∈ zs, -3000 ≤ z.from_ ∧ z.to_ ≤ 3000) (y : Int) : hasS2 (bldS zs 6001) y = hasS2 zs y := by
  rw [Bool.eq_iff_iff, hasS2_iff, hasS2_iff]
  have hl := union_law (years_sorted zs 6001) (fun z hz => by obtain ⟨i, _, _, rfl⟩ := years_mem.1 hz; exact Int.le_refl _)
  rw [bldS, hl.2 y]
  constructor
  · rintro ⟨z, hz, h1, h2⟩
    obtain ⟨i, hi, hh, rfl⟩ := years_mem.1 hz
    simp only at h1 h2
    rw [show y = (i : Int) - 3000 by omega]
    exact hasS2_iff.1 hh
  · rintro ⟨z, hz, h1, h2⟩
    have hb := h z hz
    have e : (((y + 3000).toNat : Nat) : Int) - 3000 = y := by omega
    refine ⟨⟨y, y⟩, years_mem.2 ⟨(y + 3000).toNat, by omega, ?_, by rw [e]⟩, Int.le_refl _, Int.le_refl _⟩
    rw [e]
    exact hasS2_iff.2 ⟨z, hz, h1, h2⟩
theorem sort_len {zs : List SpanV} (h : ∀ z ∈ zs, z.from_ ≤ z.to_ ∧ -3000 ≤ z.from_ ∧ z.to_ ≤ 3000) : (bldS zs 6001).length ≤ zs.length := by
  have hp : (zs.mergeSort fun a b => decide (a.from_ ≤ b.from_)).Perm zs := List.mergeSort_perm _ _
  have hs : (zs.mergeSort fun a b => decide (a.from_ ≤ b.from_)).Pairwise fun a b => decide (a.from_ ≤ b.from_) = true :=
    List.pairwise_mergeSort (fun a b c h1 h2 => by simp only [decide_eq_true_eq] at h1 h2 ⊢; omega) (fun a b => by simp only [Bool.or_eq_true, decide_eq_true_eq]; omega) zs
  have hu := years_union (zs := zs.mergeSort fun a b => decide (a.from_ ≤ b.from_)) (xs := zs) (hs.imp fun h => by simpa using h) (fun z hz => h z (hp.mem_iff.1 hz)) fun z => hp.mem_iff
  rw [bldS, ← hu]
  have := union_len (zs.mergeSort fun a b => decide (a.from_ ≤ b.from_))
  rw [hp.length_eq] at this
  exact this
theorem oy_zero {xs : List NameV} {s : ByteArray} (h : oyC xs s = 0) : namesB xs = true ∧ langB s = true := by
  cases h1 : namesB xs
  · rw [(oy_bad (.inl h1)).1] at h; exact absurd h (by decide)
  · cases h2 : langB s
    · rw [(oy_bad (.inr h2)).1] at h; exact absurd h (by decide)
    · exact ⟨rfl, rfl⟩
theorem oy_set {xs : List NameV} {s : ByteArray} (h : oyC xs s = 0) : setB (oyL xs s) := by
  obtain ⟨h1, h2⟩ := oy_zero h
  rw [(oy_good h1 h2).2]
  have hl := union_law (years_sorted (offS xs s xs.length) 6001) (fun z hz => by obtain ⟨i, _, _, rfl⟩ := years_mem.1 hz; exact Int.le_refl _)
  refine ⟨fun z hz => ?_, hl.1.2, ?_⟩
  · have := years_last _ _ z hz
    exact spanB_iff.2 ⟨by omega, by omega, by omega⟩
  · have h3 := sort_len (offS_good (xs := xs) (s := s) (k := xs.length) h1)
    have h4 : (offS xs s xs.length).length ≤ xs.length := pick_len _ _ _ _
    have h5 := (namesB_iff.1 h1).2
    omega
/-- The years with an official name are those in which there is one. -/
theorem oy_law {xs : List NameV} {s : ByteArray} {y : Int} (h : oyC xs s = 0) (hy : -3000 ≤ y ∧ y ≤ 3000) : hasS2 (oyL xs s) y = (offC xs s y == 0) := by
  obtain ⟨h1, h2⟩ := oy_zero h
  rw [(oy_good h1 h2).2, bld_covers (fun z hz => by have := offS_good h1 z hz; omega), Bool.eq_iff_iff, hasS2_iff, beq_iff_eq]
  have key : covers (offS xs s xs.length) y ↔ ∃ b, Off xs s y b := by
    constructor
    · rintro ⟨z, hz, c1, c2⟩
      obtain ⟨x, hx, hp, rfl⟩ := pick_mem hz
      simp only [offB, Bool.and_eq_true, decide_eq_true_eq] at hp
      exact ⟨x, hx, offY_iff.2 ⟨hp, c1, c2⟩⟩
    · rintro ⟨x, hx, ho⟩
      obtain ⟨hp, c1, c2⟩ := offY_iff.1 ho
      refine ⟨yearsV x, ?_, c1, c2⟩
      rw [offS, pickL, List.take_length, List.mem_map]
      exact ⟨x, List.mem_filter.2 ⟨hx, by simp [offB, hp.1, hp.2]⟩, rfl⟩
  rw [key]
  rcases off_says h1 h2 hy with ⟨e, hn⟩ | ⟨e, k, _, _, ho⟩
  · rw [e]
    exact ⟨fun ⟨b, hb⟩ => absurd hb (hn b), fun h => absurd h (by decide)⟩
  · rw [e]
    exact ⟨fun _ => rfl, fun _ => ⟨_, ho⟩⟩

end Go.Proofs.YteencdgaldhanaaGreatDoor
end

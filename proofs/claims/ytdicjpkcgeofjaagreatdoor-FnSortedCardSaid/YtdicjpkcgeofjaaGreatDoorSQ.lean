/-
  Phrases sorted, the test of their order: both sides.
-/
import Derived.Test.YtdicjpkcgeofjaaGreatDoorIQ
import Derived.Test.YtdicjpkcgeofjaaGreatDoorIV
import Derived.Test.YtdicjpkcgeofjaaGreatDoorINS
namespace Go.Proofs.YtdicjpkcgeofjaaGreatDoor
open Go.RowKit
attribute [local go_sem ↓] Go.wp_at_zero Go.wp_at_succ

/-- The phrases in order, where the code is 0. -/
def soL (ss ls : List ByteArray) (ig : List Int) : List ByteArray := if codeL ss ls ig = 0 then sortC (compC ss ig) ls else []
def asB (ss ls : List ByteArray) (ig : List Int) : Bool := decide (codeL ss ls ig = 0) && sortedC (compC ss ig) ls
theorem code_ok {ss ls : List ByteArray} {ig : List Int} (h : codeL ss ls ig = 0) (hz : ∀ s ∈ ls, s.size ≤ 1073741824) : lettersOk ss ∧ (∀ s ∈ ls, okT ss s) ∧ ls.length ≤ 20 := by
  obtain ⟨h1, h2⟩ := codeL_zero h
  obtain ⟨h3, h4, _, h5⟩ := codeN_zero h1
  rw [phrasesB, List.all_eq_true] at h4
  rw [canAll, List.all_eq_true] at h5
  exact ⟨alpha_letters h3, fun s hs => ⟨hz s hs, h4 s hs, h5 s hs⟩, by omega⟩

set_option maxRecDepth 100000 in
theorem sortStable_any (a : Option Addr) (n c B : Nat) (zs : List ByteArray) (a1 : Option Addr) (n1 c1 : Nat) (a2 : Option Addr) (m c2 : Nat) (ss : List ByteArray) (ig : List Int) (w w0 : World) (ho : OwnG layS 9 w B a n c zs) (hx0 : Ext w0 w) (hB : w0.heap.size ≤ B) (hk : CmpOk w0 a1 n1 a2 m ss ig) (hz : ∀ s ∈ zs, okT ss s) (hn : zs.length ≤ 20) :
    Calls Tryz.prog 43 #[.slice a n c, .func (.func 25) #[.agg #[.slice a1 n1 c1, .slice a2 m c2]] #[]] w fun e w' =>
      e = .returned (.tuple #[]) ∧ OwnG layS 9 w' B a n c (sortC (compC ss ig) zs) ∧ Ext w0 w' := by
  have hl := ho.rd.len
  by_cases h1 : n ≤ 1
  · have HO := Lib.hid (And.intro ho hx0)
    have HS := Lib.hid (sort_short (c := compC ss ig) (zs := zs) (by omega))
    clear ho hx0
    go_enter Tryz.func43, Tryz.ntmps43
    go_wp2_with fail
    refine (stableShort_any _ _ _ _ _ h1).mono ?_
    rintro e w1 ⟨rfl, rfl⟩
    go_wp2
    go_end0
    exact ⟨rfl, by rw [HS.out]; exact HO.out.1, HO.out.2⟩
  · rcases own_addr ho.1 with rfl | ⟨g, rfl⟩
    · have := ho.rd.isNone.1; omega
    · subst hl
      have HO := Lib.hid (And.intro ho hx0)
      have HZ := Lib.hid (And.intro hk hz)
      clear ho hx0 hk hz
      go_enter Tryz.func43, Tryz.ntmps43
      go_wp2_with fail
      refine (stableW_any B g c zs a1 n1 c1 a2 m c2 ss ig w w0 HO.out.1 HO.out.2 hB HZ.out.1 HZ.out.2 hn).mono ?_
      rintro e w1 ⟨rfl, o1, x1⟩
      have H1 := Lib.hid (And.intro o1 x1)
      clear o1 x1
      go_wp2
      go_end0
      exact ⟨rfl, H1.out.1, H1.out.2⟩

set_option maxRecDepth 100000 in
theorem sortedStable_any (Bs : Nat) (a : Option Addr) (c : Nat) (zs : List ByteArray) (a1 : Option Addr) (n1 c1 : Nat) (a2 : Option Addr) (m c2 : Nat) (ss : List ByteArray) (ig : List Int) (w : World) (hBs : Bs < w.heap.size)
    (hc : w.cell? ⟨Bs, 0, none⟩ = some (.slice a zs.length c)) (hI : RdS w a zs.length zs) (hk : CmpOk w a1 n1 a2 m ss ig) (hz : ∀ s ∈ zs, okT ss s) (hn : zs.length ≤ 20) :
    Calls Tryz.prog 23 #[.func (.func 44) #[] #[.pointer (some ⟨Bs, 0, none⟩)], .func (.func 25) #[.agg #[.slice a1 n1 c1, .slice a2 m c2]] #[]] w fun e w' => ∃ v, e = .returned v ∧ NewS w w' (sortC (compC ss ig) zs) v := by
  have HZ := Lib.hid (And.intro hk hz)
  clear hk hz
  go_enter Tryz.func23, Tryz.ntmps23
  go_wp2_with fail
  refine (collectS_any Bs a c zs (by omega) w hBs hc (ssAt_of hI)).mono ?_
  rintro e w1 ⟨v, rfl, a3, n3, c3, rfl, o3, x3⟩
  have HO := Lib.hid (And.intro o3 x3)
  clear o3 x3
  go_wp2_with fail
  refine (sortStable_any _ _ _ _ _ _ _ _ _ _ _ _ _ _ w HO.out.1 HO.out.2 (Nat.le_refl _) HZ.out.1 HZ.out.2 hn).mono ?_
  rintro e w2 ⟨rfl, o4, x4⟩
  have H4 := Lib.hid (And.intro o4 x4)
  clear o4 x4
  go_wp2
  go_ret
  exact ⟨_, rfl, _, _, _, rfl, ⟨H4.out.1, fun s hs => (HZ.out.2 s (sortC_mem.1 hs)).1⟩, H4.out.2⟩

set_option maxRecDepth 100000 in
set_option maxHeartbeats 2000000 in
theorem implSortPhrases_any (a a3 a2 : Option Addr) (n c q c3 m c2 : Nat) (ss ls : List ByteArray) (ig : List Int) (w : World) (hr : RdS w a n ss) (hcap : n ≤ c) (hr3 : RdS w a3 q ls) (hr2 : RdI w a2 m ig) (hmax : MaxW w) :
    Calls Tryz.prog 6 #[.slice a n c, .slice a3 q c3, .slice a2 m c2] w (RetTC w (soL ss ls ig) (codeL ss ls ig)) := by
  obtain rfl : q = ls.length := hr3.len.symm
  go_enter Tryz.func6, Tryz.ntmps6
  go_wp2_with fail
  refine (listSorter_any _ _ _ _ _ _ _ _ _ _ _ _ _ hr hcap hr2 hr3 hmax).mono ?_
  rintro e w1 ⟨ua, un, uc, va, vn, vc, rfl, huv, x1⟩
  cases hc : (codeL ss ls ig == 0)
  · have HC := Lib.hid (show soL ss ls ig = [] from if_neg (by simpa using hc))
    go_wp2
    go_ret2
    rw [HC.out]
    exact RetTC.nil (x1.alloc _)
  · have h0 : codeL ss ls ig = 0 := by simpa using hc
    obtain ⟨hu, hv⟩ := huv h0
    cases hu
    cases hv
    have HC := Lib.hid (show soL ss ls ig = sortC (compC ss ig) ls from if_pos h0)
    have hok := code_ok h0 hr3.2
    have hn20 := hok.2.2
    have HZ := Lib.hid (And.intro h0 hok.2.1)
    have xb := x1.alloc (.cells #[.slice a n c, .slice a2 m c2] 46)
    have HR := Lib.hid (And.intro xb (And.intro (hr3.ext xb) (show CmpOk (w1.alloc (.cells #[.slice a n c, .slice a2 m c2] 46)) a n a2 m ss ig from ⟨hr.ext xb, hr2.ext xb, hok.1, hmax.ext xb⟩)))
    have hck0 : (w1.alloc (.cells #[.slice a n c, .slice a2 m c2] 46)).cell? ⟨w1.heap.size, 0, none⟩ = some (.slice a n c) := by simp [World.cell?_alloc_at]
    have hck1 : (w1.alloc (.cells #[.slice a n c, .slice a2 m c2] 46)).cell? ⟨w1.heap.size, 1, none⟩ = some (.slice a2 m c2) := by simp [World.cell?_alloc_at]
    have hbl : w1.heap.size < (w1.alloc (.cells #[.slice a n c, .slice a2 m c2] 46)).heap.size := by simp
    clear x1 xb h0 hok huv
    go_wp2
    generalize w1.heap.size = b at hck0 hck1 hbl ⊢
    generalize w1.alloc (.cells #[.slice a n c, .slice a2 m c2] 46) = wr at HR hck0 hck1 hbl ⊢
    refine wp_region_held_drew (S := Ext wr) (by kernel_rfl) (Ext.refl _).drew (fun hHeld => ?_)
    generalize hwd : World.drew _ = wd at hHeld ⊢
    clear hwd
    refine takeYesH 0 20 ?v1 rfl rfl (by kernel_rfl) (by kernel_rfl) (by kernel_rfl) (fun _ _ _ _ h => h) (by kernel_rfl) hHeld ?y1 ?r1
    case y1 => intro wq hq; go_simp; first | done | with_reducible rfl
    simp only [Act.put, List.setIfInBounds_toArray, List.set_cons_zero, List.set_cons_succ]
    refine takeYesH 2 22 ?v2 rfl rfl (by kernel_rfl) (by kernel_rfl) (by kernel_rfl) (fun _ _ _ _ h => h) (by kernel_rfl) hHeld ?y2 ?r2
    case y2 =>
      intro wq hq
      have z0 := (Below.cell hq (p := ⟨b, 0, none⟩) hbl).trans hck0
      have z1 := (Below.cell hq (p := ⟨b, 1, none⟩) hbl).trans hck1
      go_simp
      first | done | with_reducible rfl
    simp only [Act.put, List.setIfInBounds_toArray, List.set_cons_zero, List.set_cons_succ]
    refine takeYesH 3 23 ?v3 rfl rfl (by kernel_rfl) (by kernel_rfl) (by kernel_rfl) (fun _ _ _ _ h => h) (by kernel_rfl) hHeld ?y3 ?r3
    case y3 => intro wq hq; go_simp; first | done | with_reducible rfl
    simp only [Act.put, List.setIfInBounds_toArray, List.set_cons_zero, List.set_cons_succ]
    refine wpAnyH_ready (rs := [1]) (by kernel_rfl) (by simp) ?_
    refine AllReadyH.cons rfl (fun K hK => ?_) AllReadyH.nil
    go_simp
    refine (callsIn_wide.1 (ssVals_in Fence.wide 1 trivial rfl _ _ _ _)).mono ?_
    rintro e w3 ⟨rfl, rfl⟩
    go_wp2_with fail
    refine hK.out _ _ (hHeld.trans ((Ext.refl _).alloc _)) (fun hHeld => ?_)
    clear hK K
    try simp only [Act.put, List.setIfInBounds_toArray, List.set_cons_zero, List.set_cons_succ]
    refine wpAnyH_ready (rs := [4]) (by kernel_rfl) (by simp) ?_
    refine AllReadyH.cons rfl (fun K hK => ?_) AllReadyH.nil
    go_simp
    refine (sortedStable_any _ _ _ _ _ _ _ _ _ _ _ _ _ (by simp) (by rw [World.cell?_alloc_at _ _ _ _ rfl]; rfl) (HR.out.2.1.ext hHeld) (HR.out.2.2.ext hHeld) HZ.out.2 (by omega)).mono ?_
    rintro e w4 ⟨v4, rfl, a4, n4, c4, rfl, o4, x4⟩
    have HO := Lib.hid (o4.mono (Nat.le_trans HR.out.1.size hHeld.size))
    have hn4 := o4.rd.len
    clear o4
    go_wp2_with fail
    refine hK.out _ _ (hHeld.trans x4) (fun hHeld => ?_)
    clear hK K
    try simp only [Act.put, List.setIfInBounds_toArray, List.set_cons_zero, List.set_cons_succ]
    refine takeYesH 5 6 ?v4 rfl rfl (by kernel_rfl) (by kernel_rfl) (by kernel_rfl) (fun _ _ _ _ h => h) (by kernel_rfl) hHeld ?y4 ?r4
    case y4 => intro wq hq; go_simp; first | done | with_reducible rfl
    simp only [Act.put, List.setIfInBounds_toArray, List.set_cons_zero, List.set_cons_succ]
    refine takeYesH 6 7 ?v5 rfl rfl (by kernel_rfl) (by kernel_rfl) (by kernel_rfl) (fun _ _ _ _ h => h) (by kernel_rfl) hHeld ?y5 ?r5
    case y5 => intro wq hq; go_simp; first | done | with_reducible rfl
    simp only [Act.put, List.setIfInBounds_toArray, List.set_cons_zero, List.set_cons_succ]
    refine wpAnyH_done (by kernel_rfl) ?_ _
    go_wp2
    go_ret2
    rw [HC.out, HZ.out.1]
    refine ⟨_, rfl, _, _, _, rfl, ?_, ?_, HR.out.1.trans hHeld⟩
    · rw [sortC_len] at hn4; omega
    · exact HO.out

/-! The reference. -/
set_option maxRecDepth 100000 in
set_option maxHeartbeats 1000000 in
theorem l06Sorted_any (a a3 a2 : Option Addr) (n c q c3 m c2 : Nat) (ss ls : List ByteArray) (ig : List Int) (w : World) (hr : RdS w a n ss) (hr3 : RdS w a3 q ls) (hr2 : RdI w a2 m ig) (hl : lettersOk ss) :
    Calls Tryz.prog 30 #[.slice a n c, .slice a3 q c3, .slice a2 m c2] w fun e w' => e = .returned (.bool (sortedC (compC ss ig) ls)) ∧ Ext w w' := by
  have hm := hr3.le
  have hln := hr3.len
  go_enter Tryz.func30, Tryz.ntmps30
  go_wp2
  go_loopw [7] (fun v wr => ∃ k : Nat, (k < q ∨ k = 0) ∧ v = .int .i64 ((k : Int) + 1) ∧ (∀ j, j < k → j + 1 < ls.length → compC ss ig (nthS ls j) (nthS ls (j + 1)) ≤ 0) ∧ Ext w wr) (fun v _ => q - (intOf v).toNat)
  case atStart => exact ⟨0, .inr rfl, rfl, fun j h => by omega, Ext.refl _⟩
  case round =>
    obtain ⟨k, hk, rfl, hall, hx⟩ := hrel
    have HA := Lib.hid hall
    clear hall
    by_cases hlt : k + 1 < q
    · obtain ⟨b, o, rfl, hbl, hcc⟩ := (hr3.ext hx).at (by omega)
      have d1 := hcc (k + 1) (by omega)
      have d3 := hcc k (by omega)
      have hs1 := hr3.size (k := k) (by omega)
      have hs2 := hr3.size (k := k + 1) (by omega)
      clear hcc
      have hki : (k : Int) + 1 < q := by omega
      have hk1 : (0 : Int) ≤ (k : Int) + 1 := by omega
      have hkw : IntKind.i64.wrap ((k : Int) + 1 - 1) = k := (IntWalk.i64_in _ (by omega)).trans (by omega)
      have hkt : ((k : Int) + 1).toNat = k + 1 := by omega
      have hkn2 : (k : Int) < q := by omega
      have hkv : IntKind.i64.wrap (k : Int) = k := IntWalk.i64_in _ (by omega)
      have hkv1 : IntKind.i64.wrap ((k : Int) + 1) = (k : Int) + 1 := IntWalk.i64_in _ (by omega)
      go_wp2
      refine wp_region_held_drew (S := Ext wr) (by kernel_rfl) (Ext.refl _).drew (fun hHeld => ?_)
      generalize hwd : World.drew _ = wd at hHeld ⊢
      clear hwd
      refine takeYesH 0 14 ?v6 rfl rfl (by kernel_rfl) (by kernel_rfl) (by kernel_rfl) (fun _ _ _ _ h => h) (by kernel_rfl) hHeld ?y6 ?r6
      case y6 => intro wq hq; go_simp; first | done | with_reducible rfl
      simp only [Act.put, List.setIfInBounds_toArray, List.set_cons_zero, List.set_cons_succ]
      refine takeYesH 1 15 ?v7 rfl rfl (by kernel_rfl) (by kernel_rfl) (by kernel_rfl) (fun _ _ _ _ h => h) (by kernel_rfl) hHeld ?y7 ?r7
      case y7 => intro wq hq; go_simp; first | done | with_reducible rfl
      simp only [Act.put, List.setIfInBounds_toArray, List.set_cons_zero, List.set_cons_succ]
      refine takeYesH 2 16 ?v8 rfl rfl (by kernel_rfl) (by kernel_rfl) (by kernel_rfl) (fun _ _ _ _ h => h) (by kernel_rfl) hHeld ?y8 ?r8
      case y8 => intro wq hq; go_simp; first | done | with_reducible rfl
      simp only [Act.put, List.setIfInBounds_toArray, List.set_cons_zero, List.set_cons_succ]
      refine takeYesH 3 17 ?v9 rfl rfl (by kernel_rfl) (by kernel_rfl) (by kernel_rfl) (fun _ _ _ _ h => h) (by kernel_rfl) hHeld ?y9 ?r9
      case y9 => intro wq hq; go_simp; first | done | with_reducible rfl
      simp only [Act.put, List.setIfInBounds_toArray, List.set_cons_zero, List.set_cons_succ]
      refine takeYesH 4 18 ?v10 rfl rfl (by kernel_rfl) (by kernel_rfl) (by kernel_rfl) (fun _ _ _ _ h => h) (by kernel_rfl) hHeld ?y10 ?r10
      case y10 => intro wq hq; go_simp; first | done | with_reducible rfl
      simp only [Act.put, List.setIfInBounds_toArray, List.set_cons_zero, List.set_cons_succ]
      refine takeYesH 5 19 ?v11 rfl rfl (by kernel_rfl) (by kernel_rfl) (by kernel_rfl) (fun _ _ _ _ h => h) (by kernel_rfl) hHeld ?y11 ?r11
      case y11 =>
        intro wq hq
        have z1 := (Below.cell hq (p := ⟨b, o + (k + 1), none⟩) hbl).trans d1
        have z3 := (Below.cell hq (p := ⟨b, o + k, none⟩) hbl).trans d3
        go_simp
        first | done | with_reducible rfl
      simp only [Act.put, List.setIfInBounds_toArray, List.set_cons_zero, List.set_cons_succ]
      refine takeYesH 6 20 ?v12 rfl rfl (by kernel_rfl) (by kernel_rfl) (by kernel_rfl) (fun _ _ _ _ h => h) (by kernel_rfl) hHeld ?y12 ?r12
      case y12 => intro wq hq; go_simp; first | done | with_reducible rfl
      simp only [Act.put, List.setIfInBounds_toArray, List.set_cons_zero, List.set_cons_succ]
      refine takeYesH 7 21 ?v13 rfl rfl (by kernel_rfl) (by kernel_rfl) (by kernel_rfl) (fun _ _ _ _ h => h) (by kernel_rfl) hHeld ?y13 ?r13
      case y13 => intro wq hq; go_simp; first | done | with_reducible rfl
      simp only [Act.put, List.setIfInBounds_toArray, List.set_cons_zero, List.set_cons_succ]
      refine takeYesH 8 22 ?v14 rfl rfl (by kernel_rfl) (by kernel_rfl) (by kernel_rfl) (fun _ _ _ _ h => h) (by kernel_rfl) hHeld ?y14 ?r14
      case y14 => intro wq hq; go_simp; first | done | with_reducible rfl
      simp only [Act.put, List.setIfInBounds_toArray, List.set_cons_zero, List.set_cons_succ]
      refine takeYesH 9 23 ?v15 rfl rfl (by kernel_rfl) (by kernel_rfl) (by kernel_rfl) (fun _ _ _ _ h => h) (by kernel_rfl) hHeld ?y15 ?r15
      case y15 =>
        intro wq hq
        have z1 := (Below.cell hq (p := ⟨b, o + (k + 1), none⟩) hbl).trans d1
        have z3 := (Below.cell hq (p := ⟨b, o + k, none⟩) hbl).trans d3
        go_simp
        first | done | with_reducible rfl
      simp only [Act.put, List.setIfInBounds_toArray, List.set_cons_zero, List.set_cons_succ]
      refine takeYesH 10 24 ?v16 rfl rfl (by kernel_rfl) (by kernel_rfl) (by kernel_rfl) (fun _ _ _ _ h => h) (by kernel_rfl) hHeld ?y16 ?r16
      case y16 => intro wq hq; go_simp; first | done | with_reducible rfl
      simp only [Act.put, List.setIfInBounds_toArray, List.set_cons_zero, List.set_cons_succ]
      refine wpAnyH_ready (rs := [11]) (by kernel_rfl) (by simp) ?_
      refine AllReadyH.cons rfl (fun K hK => ?_) AllReadyH.nil
      go_simp
      refine (l06Compare_any _ _ _ _ _ _ _ _ _ _ _ (hr.ext (hx.trans hHeld)) (hr2.ext (hx.trans hHeld)) hs1 hs2 hl).mono ?_
      rintro e w4 ⟨rfl, x4⟩
      go_wp2_with fail
      refine hK.out _ _ (hHeld.trans x4) (fun hHeld => ?_)
      clear hK K
      try simp only [Act.put, List.setIfInBounds_toArray, List.set_cons_zero, List.set_cons_succ]
      refine takeYesH 12 26 ?v17 rfl rfl (by kernel_rfl) (by kernel_rfl) (by kernel_rfl) (fun _ _ _ _ h => h) (by kernel_rfl) hHeld ?y17 ?r17
      case y17 => intro wq hq; go_simp; first | done | with_reducible rfl
      simp only [Act.put, List.setIfInBounds_toArray, List.set_cons_zero, List.set_cons_succ]
      refine wpAnyH_done (by kernel_rfl) ?_ _
      by_cases hcmp : 0 < compC ss ig (nthS ls k) (nthS ls (k + 1))
      · have HZ := Lib.hid (sorted_bad2 (c := compC ss ig) (zs := ls) (k := k) (by omega) hcmp)
        go_wp2
        go_ret
        exact ⟨ret_bool HZ.out.symm, hx.trans hHeld⟩
      · have HZ := Lib.hid hcmp
        go_wp2
        go_roundw
        case rel => exact ⟨k + 1, .inl (by omega), by go_num, fun j hj hj2 => by
                by_cases e : j = k
                · subst e; have := HZ.out; omega
                · exact HA.out j (by omega) hj2, hx.trans hHeld⟩
        case measure => simp only [intOf]; omega
    · have HZ := Lib.hid (sorted_good (c := compC ss ig) (zs := ls) fun j hj => HA.out j (by omega) hj)
      have hki : ¬ (k : Int) + 1 < q := by omega
      go_wp2
      go_ret
      exact ⟨ret_bool HZ.out.symm, hx⟩

theorem sort_step {c : ByteArray → ByteArray → Int} {ls S : List ByteArray} {k j : Nat} (hk : k < ls.length) (hS : S = sortC c (ls.take k)) (hj : insAt c S (nthS ls k) k = j) : sortC c (ls.take (k + 1)) = S.take j ++ nthS ls k :: S.drop j := by
  have hl : S.length = k := by rw [hS, sortC_len, List.length_take]; omega
  rw [List.take_succ_eq_append_getElem hk, sortC_snoc, ← hS, insC, ← nthS_eq hk, hl, hj]

set_option maxRecDepth 100000 in
set_option maxHeartbeats 4000000 in
theorem specSortPhrases_any (a a3 a2 : Option Addr) (n c q c3 m c2 : Nat) (ss ls : List ByteArray) (ig : List Int) (w : World) (hr : RdS w a n ss) (hr3 : RdS w a3 q ls) (hr2 : RdI w a2 m ig) :
    Calls Tryz.prog 7 #[.slice a n c, .slice a3 q c3, .slice a2 m c2] w (RetTC w (soL ss ls ig) (codeL ss ls ig)) := by
  have hln := hr3.len
  have hm := hr3.le
  go_enter Tryz.func7, Tryz.ntmps7
  go_wp2_with fail
  refine (l06Code_any _ _ _ _ _ _ _ _ _ _ _ _ _ hr hr3 hr2).mono ?_
  rintro e w1 ⟨rfl, x1⟩
  cases hc : (codeL ss ls ig == 0)
  · have HC := Lib.hid (show soL ss ls ig = [] from if_neg (by simpa using hc))
    go_wp2
    go_ret2
    rw [HC.out]
    exact RetTC.nil x1
  have h0 : codeL ss ls ig = 0 := by simpa using hc
  have HC := Lib.hid (And.intro (show soL ss ls ig = sortC (compC ss ig) ls from if_pos h0) h0)
  have hok := code_ok h0 hr3.2
  have hl := hok.1
  have h20 := hok.2.2
  clear hok h0
  have HR := Lib.hid (And.intro (hr.ext x1) (And.intro (hr3.ext x1) (And.intro (hr2.ext x1) x1)))
  clear x1 hr hr2 hr3
  go_wp2
  rw [show (codeL ss ls ig != 0) = false by rw [bne, hc]; rfl]
  go_loopw [9, 10] (fun v i wr => ∃ (k : Nat) (a4 : Option Addr) (c4 : Nat), k ≤ q ∧ i = .int .i64 k ∧ v = .slice a4 k c4 ∧ OwnG layS 9 wr w1.heap.size a4 k c4 (sortC (compC ss ig) (ls.take k)) ∧ (∃ g, a4 = some ⟨g, 0, none⟩) ∧ Ext w1 wr) (fun _ i _ => q - (intOf i).toNat)
  case atStart => exact ⟨0, _, _, Nat.zero_le _, rfl, rfl, OwnG.lit layS 9 w1 (Nat.le_refl _) [] #[] rfl (by simp), ⟨_, rfl⟩, (Ext.refl _).alloc _⟩
  case round =>
    obtain ⟨k, a4, c4, hk, rfl, rfl, ho, ⟨g, rfl⟩, hx⟩ := hrel
    by_cases hlt : k < q
    · have hki : (k : Int) < q := by omega
      have hkl : k < ls.length := by omega
      obtain ⟨S, hS⟩ : ∃ S, S = sortC (compC ss ig) (ls.take k) := ⟨_, rfl⟩
      rw [← hS] at ho
      have hSl : S.length = k := by rw [hS, sortC_len, List.length_take]; omega
      have HS := Lib.hid hS
      clear hS
      have HO := Lib.hid (And.intro ho hx)
      have hSz : ∀ s ∈ S, s.size ≤ 1073741824 := fun s hs => by
        rw [HS.out, sortC_mem] at hs
        exact HR.out.2.1.2 s (List.mem_of_mem_take hs)
      have HSz := Lib.hid hSz
      clear ho hx hSz
      go_wp2
      go_loopw [11] (fun v wr2 => ∃ j : Nat, j ≤ k ∧ v = .int .i64 j ∧ insAt (compC ss ig) S (nthS ls k) k = insAt (compC ss ig) S (nthS ls k) j ∧ Ext wr wr2) (fun v _ => (intOf v).toNat)
      case atStart => exact ⟨k, Nat.le_refl _, rfl, rfl, Ext.refl _⟩
      case round =>
        obtain ⟨j, hj, rfl, hI, hx2⟩ := hrel
        have HI := Lib.hid hI
        clear hI
        obtain ⟨b3, o3, rfl, hb3, hA3⟩ := (HR.out.2.1.ext (HO.out.2.trans hx2)).at (by omega)
        have hck := hA3 k hlt
        clear hA3
        by_cases hj0 : 0 < j
        · have hoj := HO.out.1.ext hx2
          have hrj : RdS wr (some ⟨g, 0, none⟩) k S := ⟨hoj.rd, HSz.out⟩
          obtain ⟨b4, o4, e4, hb4, hA4⟩ := hrj.at (by omega)
          cases e4
          have hcj := hA4 (j - 1) (by omega)
          have hszj := hrj.size (k := j - 1) (by omega)
          have hszk := HR.out.2.1.size hlt
          simp only [Nat.zero_add] at hcj
          clear hA4 hoj hrj
          have hjs : j - 1 < S.length := by omega
          have hji : (0 : Int) < j := by omega
          have hj1 : (1 : Int) ≤ j := by omega
          have hjw : IntKind.i64.wrap ((j : Int) - 1) = (j : Int) - 1 := IntWalk.i64_in _ (by omega)
          have hjt : ((j : Int) - 1).toNat = j - 1 := by omega
          have hj2 : (0 : Int) ≤ (j : Int) - 1 := by omega
          have hj3 : (j : Int) - 1 < k := by omega
          go_wp2
          refine wp_region_held_drew (S := Ext wr) (by kernel_rfl) (Ext.refl _).drew (fun hHeld => ?_)
          generalize hwd : World.drew _ = wd at hHeld ⊢
          clear hwd
          refine takeYesH 0 28 ?v18 rfl rfl (by kernel_rfl) (by kernel_rfl) (by kernel_rfl) (fun _ _ _ _ h => h) (by kernel_rfl) hHeld ?y18 ?r18
          case y18 => intro wq hq; go_simp; first | done | with_reducible rfl
          simp only [Act.put, List.setIfInBounds_toArray, List.set_cons_zero, List.set_cons_succ]
          refine takeYesH 1 29 ?v19 rfl rfl (by kernel_rfl) (by kernel_rfl) (by kernel_rfl) (fun _ _ _ _ h => h) (by kernel_rfl) hHeld ?y19 ?r19
          case y19 => intro wq hq; go_simp; first | done | with_reducible rfl
          simp only [Act.put, List.setIfInBounds_toArray, List.set_cons_zero, List.set_cons_succ]
          refine takeYesH 2 30 ?v20 rfl rfl (by kernel_rfl) (by kernel_rfl) (by kernel_rfl) (fun _ _ _ _ h => h) (by kernel_rfl) hHeld ?y20 ?r20
          case y20 => intro wq hq; go_simp; first | done | with_reducible rfl
          simp only [Act.put, List.setIfInBounds_toArray, List.set_cons_zero, List.set_cons_succ]
          refine takeYesH 3 31 ?v21 rfl rfl (by kernel_rfl) (by kernel_rfl) (by kernel_rfl) (fun _ _ _ _ h => h) (by kernel_rfl) hHeld ?y21 ?r21
          case y21 => intro wq hq; go_simp; first | done | with_reducible rfl
          simp only [Act.put, List.setIfInBounds_toArray, List.set_cons_zero, List.set_cons_succ]
          refine takeYesH 4 32 ?v22 rfl rfl (by kernel_rfl) (by kernel_rfl) (by kernel_rfl) (fun _ _ _ _ h => h) (by kernel_rfl) hHeld ?y22 ?r22
          case y22 => intro wq hq; go_simp; first | done | with_reducible rfl
          simp only [Act.put, List.setIfInBounds_toArray, List.set_cons_zero, List.set_cons_succ]
          refine takeYesH 5 33 ?v23 rfl rfl (by kernel_rfl) (by kernel_rfl) (by kernel_rfl) (fun _ _ _ _ h => h) (by kernel_rfl) hHeld ?y23 ?r23
          case y23 => intro wq hq; go_simp; first | done | with_reducible rfl
          simp only [Act.put, List.setIfInBounds_toArray, List.set_cons_zero, List.set_cons_succ]
          refine takeYesH 6 34 ?v24 rfl rfl (by kernel_rfl) (by kernel_rfl) (by kernel_rfl) (fun _ _ _ _ h => h) (by kernel_rfl) hHeld ?y24 ?r24
          case y24 => intro wq hq; go_simp; first | done | with_reducible rfl
          simp only [Act.put, List.setIfInBounds_toArray, List.set_cons_zero, List.set_cons_succ]
          refine takeYesH 7 35 ?v25 rfl rfl (by kernel_rfl) (by kernel_rfl) (by kernel_rfl) (fun _ _ _ _ h => h) (by kernel_rfl) hHeld ?y25 ?r25
          case y25 =>
            intro wq hq
            have z1 := (Below.cell hq (p := ⟨b3, o3 + k, none⟩) hb3).trans hck
            have z3 := (Below.cell hq (p := ⟨g, j - 1, none⟩) hb4).trans hcj
            go_simp
            first | done | with_reducible rfl
          simp only [Act.put, List.setIfInBounds_toArray, List.set_cons_zero, List.set_cons_succ]
          refine takeYesH 8 36 ?v26 rfl rfl (by kernel_rfl) (by kernel_rfl) (by kernel_rfl) (fun _ _ _ _ h => h) (by kernel_rfl) hHeld ?y26 ?r26
          case y26 => intro wq hq; go_simp; first | done | with_reducible rfl
          simp only [Act.put, List.setIfInBounds_toArray, List.set_cons_zero, List.set_cons_succ]
          refine takeYesH 9 37 ?v27 rfl rfl (by kernel_rfl) (by kernel_rfl) (by kernel_rfl) (fun _ _ _ _ h => h) (by kernel_rfl) hHeld ?y27 ?r27
          case y27 => intro wq hq; go_simp; first | done | with_reducible rfl
          simp only [Act.put, List.setIfInBounds_toArray, List.set_cons_zero, List.set_cons_succ]
          refine takeYesH 10 38 ?v28 rfl rfl (by kernel_rfl) (by kernel_rfl) (by kernel_rfl) (fun _ _ _ _ h => h) (by kernel_rfl) hHeld ?y28 ?r28
          case y28 => intro wq hq; go_simp; first | done | with_reducible rfl
          simp only [Act.put, List.setIfInBounds_toArray, List.set_cons_zero, List.set_cons_succ]
          refine takeYesH 11 39 ?v29 rfl rfl (by kernel_rfl) (by kernel_rfl) (by kernel_rfl) (fun _ _ _ _ h => h) (by kernel_rfl) hHeld ?y29 ?r29
          case y29 => intro wq hq; go_simp; first | done | with_reducible rfl
          simp only [Act.put, List.setIfInBounds_toArray, List.set_cons_zero, List.set_cons_succ]
          refine takeYesH 12 40 ?v30 rfl rfl (by kernel_rfl) (by kernel_rfl) (by kernel_rfl) (fun _ _ _ _ h => h) (by kernel_rfl) hHeld ?y30 ?r30
          case y30 =>
            intro wq hq
            have z1 := (Below.cell hq (p := ⟨b3, o3 + k, none⟩) hb3).trans hck
            have z3 := (Below.cell hq (p := ⟨g, j - 1, none⟩) hb4).trans hcj
            go_simp
            first | done | with_reducible rfl
          simp only [Act.put, List.setIfInBounds_toArray, List.set_cons_zero, List.set_cons_succ]
          refine takeYesH 13 41 ?v31 rfl rfl (by kernel_rfl) (by kernel_rfl) (by kernel_rfl) (fun _ _ _ _ h => h) (by kernel_rfl) hHeld ?y31 ?r31
          case y31 => intro wq hq; go_simp; first | done | with_reducible rfl
          simp only [Act.put, List.setIfInBounds_toArray, List.set_cons_zero, List.set_cons_succ]
          refine wpAnyH_ready (rs := [14]) (by kernel_rfl) (by simp) ?_
          refine AllReadyH.cons rfl (fun K hK => ?_) AllReadyH.nil
          go_simp
          refine (l06Compare_any _ _ _ _ _ _ _ _ _ _ _ (HR.out.1.ext (HO.out.2.trans (hx2.trans hHeld))) (HR.out.2.2.1.ext (HO.out.2.trans (hx2.trans hHeld))) hszk hszj hl).mono ?_
          rintro e wd ⟨rfl, x4⟩
          go_wp2_with fail
          refine hK.out _ _ (hHeld.trans x4) (fun hHeld => ?_)
          clear hK K
          try simp only [Act.put, List.setIfInBounds_toArray, List.set_cons_zero, List.set_cons_succ]
          refine takeYesH 15 43 ?v32 rfl rfl (by kernel_rfl) (by kernel_rfl) (by kernel_rfl) (fun _ _ _ _ h => h) (by kernel_rfl) hHeld ?y32 ?r32
          case y32 => intro wq hq; go_simp; first | done | with_reducible rfl
          simp only [Act.put, List.setIfInBounds_toArray, List.set_cons_zero, List.set_cons_succ]
          refine takeYesH 16 44 ?v33 rfl rfl (by kernel_rfl) (by kernel_rfl) (by kernel_rfl) (fun _ _ _ _ h => h) (by kernel_rfl) hHeld ?y33 ?r33
          case y33 => intro wq hq; go_simp; first | done | with_reducible rfl
          simp only [Act.put, List.setIfInBounds_toArray, List.set_cons_zero, List.set_cons_succ]
          refine wpAnyH_done (by kernel_rfl) ?_ _
          by_cases hcmp : compC ss ig (nthS ls k) (nthS S (j - 1)) < 0
          · have HZ := Lib.hid hcmp
            go_wp2
            go_roundw
            case rel => exact ⟨j - 1, by omega, by rw [show ((j : Int) - 1) = ((j - 1 : Nat) : Int) from by omega], by
              rw [HI.out]
              have h := insAt_less (c := compC ss ig) (out := S) (x := nthS ls k) (k := j - 1) hjs (by rw [← nthS_eq hjs]; have := HZ.out; omega)
              rwa [show j - 1 + 1 = j from by omega] at h, hx2.trans hHeld⟩
            case measure => simp only [intOf]; omega
          · have HZ := Lib.hid hcmp
            go_wp2
            have HJ := Lib.hid (show insAt (compC ss ig) S (nthS ls k) k = j by
              rw [HI.out]
              have h := insAt_stop (c := compC ss ig) (out := S) (x := nthS ls k) (k := j - 1) hjs (by rw [← nthS_eq hjs]; have := HZ.out; omega)
              rwa [show j - 1 + 1 = j from by omega] at h)
            have HW := Lib.hid (And.intro (HO.out.1.ext (hx2.trans hHeld)) (HO.out.2.trans (hx2.trans hHeld)))
            have hck5 := (Below.cell hHeld (p := ⟨b3, o3 + k, none⟩) hb3).trans hck
            have hb5 := Nat.lt_of_lt_of_le hb3 hHeld.size
            have hcap : k ≤ c4 := OwnS.cap ⟨HW.out.1, HSz.out⟩
            have hfr := HW.out.1.rd.front hj
            clear hHeld hck hb3
            have p0 : (0 : Int) ≤ j := by omega
            have p1 : (j : Int) ≤ c4 := by omega
            have p2 : (j : Int) ≤ k := by omega
            by_cases hck2 : c4 = j
            · have hjk : j = k := by omega
              have hbk : RdG layS wd (some ⟨g, 0, none⟩) (k - j) (S.drop j) := by
                rw [List.drop_eq_nil_of_le (by omega), show k - j = 0 from by omega]; exact RdG.nil _ _ _
              subst hck2
              subst hjk
              rw [Nat.sub_self] at hbk
              clear p1 p2
              go_wp2
              go_region_law (first | (refine step_appG layS rfl _ _ 24 9 rfl Tryz.underlying24 (.string ⟨#[]⟩) 16 Tryz.info_string rfl (by decide) wd.heap.size _ (c4 + 1) _ (S.take c4 ++ [(nthS ls c4)]) rfl hown6 _ 0 _ (S.drop c4) rfl (hbk.ext hg6) (by omega) hg6.size ?_; intro a7 c7 w7 hown7 hgrow7; have hg7 := hg6.grown hgrow7 (fun k e => (hown6.1.lt k e).1)) | (refine step_appG layS rfl _ _ 24 9 rfl Tryz.underlying24 (.string ⟨#[]⟩) 16 Tryz.info_string rfl (by decide) wd.heap.size _ c4 _ (S.take c4) rfl (hown.ext ((Ext.refl _).alloc _)) _ 1 1 [(nthS ls c4)] rfl (RdG.new1 layS _ _ _ rfl _) (by omega) (by have := hg.size; simp only [World.size_alloc]; omega) ?_; intro a6 c6 w6 hown6 hgrow6; have hg6 := (hg.alloc (.cells #[.string (nthS ls c4)] 9)).grown hgrow6 (fun k e => (hown.1.lt k e).1)) | (refine step_appG layS rfl _ _ 24 9 rfl Tryz.underlying24 (.string ⟨#[]⟩) 16 Tryz.info_string rfl (by decide) wd.heap.size _ c4 _ (S.take c4) rfl hown _ 1 1 [(nthS ls c4)] rfl hlit (by omega) hg.size ?_; intro a6 c6 w6 hown6 hgrow6; have hg6 := hg.grown hgrow6 (fun k e => (hown.1.lt k e).1)) | (have ho0 := (OwnG.lit layS 9 wd (Nat.le_refl wd.heap.size) [] #[] rfl (by simp)).ext (Ext.refl _).drew; refine step_appG layS rfl _ _ 24 9 rfl Tryz.underlying24 (.string ⟨#[]⟩) 16 Tryz.info_string rfl (by decide) wd.heap.size _ 0 _ [] rfl ho0 _ c4 c4 (S.take c4) rfl (hfr.ext (((Ext.refl wd).alloc (.cells #[] 9)).drew)) (by omega) (by first | omega | (simp only [World.size_alloc, World.size_drew]; omega)) ?_; intro a5 c5 w5 hown hgrow; simp only [Nat.zero_add, List.nil_append] at hown; have hg := (((Ext.refl wd).alloc (.cells #[] 9)).drew).grown hgrow (fun k e => (ho0.1.lt k e).1); have hcl := (Below.cell hg (p := ⟨b3, o3 + c4, none⟩) hb5).trans hck5) | (have ho0 := ((OwnG.lit layS 9 wd (Nat.le_refl wd.heap.size) [] #[] rfl (by simp)).ext ((Ext.refl _).alloc (.cells #[.string (nthS ls c4)] 9))).ext (Ext.refl _).drew; have hl0 := RdG.new1 layS (wd.alloc (.cells #[] 9)) (nthS ls c4) #[.string (nthS ls c4)] rfl 9; rw [World.size_alloc] at hl0; refine step_appG layS rfl _ _ 24 9 rfl Tryz.underlying24 (.string ⟨#[]⟩) 16 Tryz.info_string rfl (by decide) wd.heap.size _ 0 _ [] rfl ho0 _ c4 c4 (S.take c4) rfl (hfr.ext ((((Ext.refl wd).alloc (.cells #[] 9)).alloc (.cells #[.string (nthS ls c4)] 9)).drew)) (by omega) (by first | omega | (simp only [World.size_alloc, World.size_drew]; omega)) ?_; intro a5 c5 w5 hown hgrow; simp only [Nat.zero_add, List.nil_append] at hown; have hg := ((((Ext.refl wd).alloc (.cells #[] 9)).alloc (.cells #[.string (nthS ls c4)] 9)).drew).grown hgrow (fun k e => (ho0.1.lt k e).1); have hcl := (Below.cell hg (p := ⟨b3, o3 + c4, none⟩) hb5).trans hck5; have hlit := RdG.grown (hl0.ext (Ext.refl _).drew) hgrow (by simp [Value.ownBlock])) | (have ho1 := OwnG.lit layS 9 (wd.alloc (.cells #[.string (nthS ls c4)] 9)) (show wd.heap.size ≤ _ by rw [World.size_alloc]; omega) [] #[] rfl (by simp); rw [World.size_alloc] at ho1; have ho0 := ho1.ext (Ext.refl _).drew; have hl0 := RdG.new1 layS wd (nthS ls c4) #[.string (nthS ls c4)] rfl 9; refine step_appG layS rfl _ _ 24 9 rfl Tryz.underlying24 (.string ⟨#[]⟩) 16 Tryz.info_string rfl (by decide) wd.heap.size _ 0 _ [] rfl ho0 _ c4 c4 (S.take c4) rfl (hfr.ext ((((Ext.refl wd).alloc (.cells #[.string (nthS ls c4)] 9)).alloc (.cells #[] 9)).drew)) (by omega) (by first | omega | (simp only [World.size_alloc, World.size_drew]; omega)) ?_; intro a5 c5 w5 hown hgrow; simp only [Nat.zero_add, List.nil_append] at hown; have hg := ((((Ext.refl wd).alloc (.cells #[.string (nthS ls c4)] 9)).alloc (.cells #[] 9)).drew).grown hgrow (fun k e => (ho0.1.lt k e).1); have hcl := (Below.cell hg (p := ⟨b3, o3 + c4, none⟩) hb5).trans hck5; have hlit := RdG.grown ((hl0.ext ((Ext.refl _).alloc (.cells #[] 9))).ext (Ext.refl _).drew) hgrow (by simp [Value.ownBlock])))
              all_goals
                obtain ⟨g7, rfl⟩ := own_some hown7 (by omega)
                have HF := Lib.hid (And.intro hown7 (HW.out.2.trans hg7))
                clear hown7 hg7
                go_wp2
                refine ⟨⟨c4 + 1, some ⟨g7, 0, none⟩, c7, by omega, by go_num, by first | rfl | (simp; omega), ?_, ⟨_, rfl⟩, HF.out.2⟩, ?_⟩
                · rw [sort_step hkl HS.out HJ.out]
                  have e : c4 + 1 + 0 = c4 + 1 := by omega
                  have := HF.out.1.mono HW.out.2.size
                  rw [e] at this
                  simpa using this
                · simp only [intOf]
                  omega
            · have hbk : RdG layS wd (some ⟨g, j, none⟩) (k - j) (S.drop j) := by have := HW.out.1.rd.tail hj; simpa [layS] using this
              go_wp2
              go_region_law (first | (refine step_appG layS rfl _ _ 24 9 rfl Tryz.underlying24 (.string ⟨#[]⟩) 16 Tryz.info_string rfl (by decide) wd.heap.size _ (j + 1) _ (S.take j ++ [(nthS ls k)]) rfl hown6 _ (k - j) _ (S.drop j) rfl (hbk.ext hg6) (by omega) hg6.size ?_; intro a7 c7 w7 hown7 hgrow7; have hg7 := hg6.grown hgrow7 (fun k e => (hown6.1.lt k e).1)) | (refine step_appG layS rfl _ _ 24 9 rfl Tryz.underlying24 (.string ⟨#[]⟩) 16 Tryz.info_string rfl (by decide) wd.heap.size _ j _ (S.take j) rfl (hown.ext ((Ext.refl _).alloc _)) _ 1 1 [(nthS ls k)] rfl (RdG.new1 layS _ _ _ rfl _) (by omega) (by have := hg.size; simp only [World.size_alloc]; omega) ?_; intro a6 c6 w6 hown6 hgrow6; have hg6 := (hg.alloc (.cells #[.string (nthS ls k)] 9)).grown hgrow6 (fun k e => (hown.1.lt k e).1)) | (refine step_appG layS rfl _ _ 24 9 rfl Tryz.underlying24 (.string ⟨#[]⟩) 16 Tryz.info_string rfl (by decide) wd.heap.size _ j _ (S.take j) rfl hown _ 1 1 [(nthS ls k)] rfl hlit (by omega) hg.size ?_; intro a6 c6 w6 hown6 hgrow6; have hg6 := hg.grown hgrow6 (fun k e => (hown.1.lt k e).1)) | (have ho0 := (OwnG.lit layS 9 wd (Nat.le_refl wd.heap.size) [] #[] rfl (by simp)).ext (Ext.refl _).drew; refine step_appG layS rfl _ _ 24 9 rfl Tryz.underlying24 (.string ⟨#[]⟩) 16 Tryz.info_string rfl (by decide) wd.heap.size _ 0 _ [] rfl ho0 _ j c4 (S.take j) rfl (hfr.ext (((Ext.refl wd).alloc (.cells #[] 9)).drew)) (by omega) (by first | omega | (simp only [World.size_alloc, World.size_drew]; omega)) ?_; intro a5 c5 w5 hown hgrow; simp only [Nat.zero_add, List.nil_append] at hown; have hg := (((Ext.refl wd).alloc (.cells #[] 9)).drew).grown hgrow (fun k e => (ho0.1.lt k e).1); have hcl := (Below.cell hg (p := ⟨b3, o3 + k, none⟩) hb5).trans hck5) | (have ho0 := ((OwnG.lit layS 9 wd (Nat.le_refl wd.heap.size) [] #[] rfl (by simp)).ext ((Ext.refl _).alloc (.cells #[.string (nthS ls k)] 9))).ext (Ext.refl _).drew; have hl0 := RdG.new1 layS (wd.alloc (.cells #[] 9)) (nthS ls k) #[.string (nthS ls k)] rfl 9; rw [World.size_alloc] at hl0; refine step_appG layS rfl _ _ 24 9 rfl Tryz.underlying24 (.string ⟨#[]⟩) 16 Tryz.info_string rfl (by decide) wd.heap.size _ 0 _ [] rfl ho0 _ j c4 (S.take j) rfl (hfr.ext ((((Ext.refl wd).alloc (.cells #[] 9)).alloc (.cells #[.string (nthS ls k)] 9)).drew)) (by omega) (by first | omega | (simp only [World.size_alloc, World.size_drew]; omega)) ?_; intro a5 c5 w5 hown hgrow; simp only [Nat.zero_add, List.nil_append] at hown; have hg := ((((Ext.refl wd).alloc (.cells #[] 9)).alloc (.cells #[.string (nthS ls k)] 9)).drew).grown hgrow (fun k e => (ho0.1.lt k e).1); have hcl := (Below.cell hg (p := ⟨b3, o3 + k, none⟩) hb5).trans hck5; have hlit := RdG.grown (hl0.ext (Ext.refl _).drew) hgrow (by simp [Value.ownBlock])) | (have ho1 := OwnG.lit layS 9 (wd.alloc (.cells #[.string (nthS ls k)] 9)) (show wd.heap.size ≤ _ by rw [World.size_alloc]; omega) [] #[] rfl (by simp); rw [World.size_alloc] at ho1; have ho0 := ho1.ext (Ext.refl _).drew; have hl0 := RdG.new1 layS wd (nthS ls k) #[.string (nthS ls k)] rfl 9; refine step_appG layS rfl _ _ 24 9 rfl Tryz.underlying24 (.string ⟨#[]⟩) 16 Tryz.info_string rfl (by decide) wd.heap.size _ 0 _ [] rfl ho0 _ j c4 (S.take j) rfl (hfr.ext ((((Ext.refl wd).alloc (.cells #[.string (nthS ls k)] 9)).alloc (.cells #[] 9)).drew)) (by omega) (by first | omega | (simp only [World.size_alloc, World.size_drew]; omega)) ?_; intro a5 c5 w5 hown hgrow; simp only [Nat.zero_add, List.nil_append] at hown; have hg := ((((Ext.refl wd).alloc (.cells #[.string (nthS ls k)] 9)).alloc (.cells #[] 9)).drew).grown hgrow (fun k e => (ho0.1.lt k e).1); have hcl := (Below.cell hg (p := ⟨b3, o3 + k, none⟩) hb5).trans hck5; have hlit := RdG.grown ((hl0.ext ((Ext.refl _).alloc (.cells #[] 9))).ext (Ext.refl _).drew) hgrow (by simp [Value.ownBlock])))
              all_goals
                obtain ⟨g7, rfl⟩ := own_some hown7 (by omega)
                have HF := Lib.hid (And.intro hown7 (HW.out.2.trans hg7))
                clear hown7 hg7
                go_wp2
                refine ⟨⟨k + 1, some ⟨g7, 0, none⟩, c7, by omega, by go_num, by first | rfl | (simp; omega), ?_, ⟨_, rfl⟩, HF.out.2⟩, ?_⟩
                · rw [sort_step hkl HS.out HJ.out]
                  have e : j + 1 + (k - j) = k + 1 := by omega
                  have := HF.out.1.mono HW.out.2.size
                  rw [e] at this
                  simpa using this
                · simp only [intOf]
                  omega
        · have hji : ¬ (0 : Int) < j := by omega
          go_wp2
          refine wp_region_held_drew (S := Ext wr) (by kernel_rfl) (Ext.refl _).drew (fun hHeld => ?_)
          generalize hwd : World.drew _ = wd at hHeld ⊢
          clear hwd
          refine takeYesH 0 28 ?v34 rfl rfl (by kernel_rfl) (by kernel_rfl) (by kernel_rfl) (fun _ _ _ _ h => h) (by kernel_rfl) hHeld ?y34 ?r34
          case y34 => intro wq hq; go_simp; first | done | with_reducible rfl
          simp only [Act.put, List.setIfInBounds_toArray, List.set_cons_zero, List.set_cons_succ]
          refine takeYesH 1 29 ?v35 rfl rfl (by kernel_rfl) (by kernel_rfl) (by kernel_rfl) (fun _ _ _ _ h => h) (by kernel_rfl) hHeld ?y35 ?r35
          case y35 => intro wq hq; go_simp; first | done | with_reducible rfl
          simp only [Act.put, List.setIfInBounds_toArray, List.set_cons_zero, List.set_cons_succ]
          refine takeYesH 2 30 ?v36 rfl rfl (by kernel_rfl) (by kernel_rfl) (by kernel_rfl) (fun _ _ _ _ h => h) (by kernel_rfl) hHeld ?y36 ?r36
          case y36 => intro wq hq; go_simp; first | done | with_reducible rfl
          simp only [Act.put, List.setIfInBounds_toArray, List.set_cons_zero, List.set_cons_succ]
          refine takeNoH 3 31 rfl rfl (by kernel_rfl) (by kernel_rfl) (by kernel_rfl) (fun _ _ _ _ h => h) (by kernel_rfl) hHeld ?_
          simp only [Act.put, List.setIfInBounds_toArray, List.set_cons_zero, List.set_cons_succ]
          refine takeNoH 4 32 rfl rfl (by kernel_rfl) (by kernel_rfl) (by kernel_rfl) (fun _ _ _ _ h => h) (by kernel_rfl) hHeld ?_
          simp only [Act.put, List.setIfInBounds_toArray, List.set_cons_zero, List.set_cons_succ]
          refine takeNoH 5 33 rfl rfl (by kernel_rfl) (by kernel_rfl) (by kernel_rfl) (fun _ _ _ _ h => h) (by kernel_rfl) hHeld ?_
          simp only [Act.put, List.setIfInBounds_toArray, List.set_cons_zero, List.set_cons_succ]
          refine takeNoH 6 34 rfl rfl (by kernel_rfl) (by kernel_rfl) (by kernel_rfl) (fun _ _ _ _ h => h) (by kernel_rfl) hHeld ?_
          simp only [Act.put, List.setIfInBounds_toArray, List.set_cons_zero, List.set_cons_succ]
          refine takeNoH 7 35 rfl rfl (by kernel_rfl) (by kernel_rfl) (by kernel_rfl) (fun _ _ _ _ h => h) (by kernel_rfl) hHeld ?_
          simp only [Act.put, List.setIfInBounds_toArray, List.set_cons_zero, List.set_cons_succ]
          refine takeNoH 8 36 rfl rfl (by kernel_rfl) (by kernel_rfl) (by kernel_rfl) (fun _ _ _ _ h => h) (by kernel_rfl) hHeld ?_
          simp only [Act.put, List.setIfInBounds_toArray, List.set_cons_zero, List.set_cons_succ]
          refine takeNoH 9 37 rfl rfl (by kernel_rfl) (by kernel_rfl) (by kernel_rfl) (fun _ _ _ _ h => h) (by kernel_rfl) hHeld ?_
          simp only [Act.put, List.setIfInBounds_toArray, List.set_cons_zero, List.set_cons_succ]
          refine takeNoH 10 38 rfl rfl (by kernel_rfl) (by kernel_rfl) (by kernel_rfl) (fun _ _ _ _ h => h) (by kernel_rfl) hHeld ?_
          simp only [Act.put, List.setIfInBounds_toArray, List.set_cons_zero, List.set_cons_succ]
          refine takeNoH 11 39 rfl rfl (by kernel_rfl) (by kernel_rfl) (by kernel_rfl) (fun _ _ _ _ h => h) (by kernel_rfl) hHeld ?_
          simp only [Act.put, List.setIfInBounds_toArray, List.set_cons_zero, List.set_cons_succ]
          refine takeNoH 12 40 rfl rfl (by kernel_rfl) (by kernel_rfl) (by kernel_rfl) (fun _ _ _ _ h => h) (by kernel_rfl) hHeld ?_
          simp only [Act.put, List.setIfInBounds_toArray, List.set_cons_zero, List.set_cons_succ]
          refine takeNoH 13 41 rfl rfl (by kernel_rfl) (by kernel_rfl) (by kernel_rfl) (fun _ _ _ _ h => h) (by kernel_rfl) hHeld ?_
          simp only [Act.put, List.setIfInBounds_toArray, List.set_cons_zero, List.set_cons_succ]
          refine takeNoH 14 42 rfl rfl (by kernel_rfl) (by kernel_rfl) (by kernel_rfl) (fun _ _ _ _ h => h) (by kernel_rfl) hHeld ?_
          simp only [Act.put, List.setIfInBounds_toArray, List.set_cons_zero, List.set_cons_succ]
          refine takeNoH 15 43 rfl rfl (by kernel_rfl) (by kernel_rfl) (by kernel_rfl) (fun _ _ _ _ h => h) (by kernel_rfl) hHeld ?_
          simp only [Act.put, List.setIfInBounds_toArray, List.set_cons_zero, List.set_cons_succ]
          refine takeYesH 16 44 ?v37 rfl rfl (by kernel_rfl) (by kernel_rfl) (by kernel_rfl) (fun _ _ _ _ h => h) (by kernel_rfl) hHeld ?y37 ?r37
          case y37 => intro wq hq; go_simp; first | done | with_reducible rfl
          simp only [Act.put, List.setIfInBounds_toArray, List.set_cons_zero, List.set_cons_succ]
          refine wpAnyH_done (by kernel_rfl) ?_ _
          go_wp2
          have HJ := Lib.hid (show insAt (compC ss ig) S (nthS ls k) k = j by rw [HI.out, show j = 0 from by omega]; rfl)
          have HW := Lib.hid (And.intro (HO.out.1.ext (hx2.trans hHeld)) (HO.out.2.trans (hx2.trans hHeld)))
          have hck5 := (Below.cell hHeld (p := ⟨b3, o3 + k, none⟩) hb3).trans hck
          have hb5 := Nat.lt_of_lt_of_le hb3 hHeld.size
          have hcap : k ≤ c4 := OwnS.cap ⟨HW.out.1, HSz.out⟩
          have hfr := HW.out.1.rd.front hj
          clear hHeld hck hb3
          have p0 : (0 : Int) ≤ j := by omega
          have p1 : (j : Int) ≤ c4 := by omega
          have p2 : (j : Int) ≤ k := by omega
          by_cases hck2 : c4 = j
          · have hjk : j = k := by omega
            have hbk : RdG layS wd (some ⟨g, 0, none⟩) (k - j) (S.drop j) := by
              rw [List.drop_eq_nil_of_le (by omega), show k - j = 0 from by omega]; exact RdG.nil _ _ _
            subst hck2
            subst hjk
            rw [Nat.sub_self] at hbk
            clear p1 p2
            go_wp2
            go_region_law (first | (refine step_appG layS rfl _ _ 24 9 rfl Tryz.underlying24 (.string ⟨#[]⟩) 16 Tryz.info_string rfl (by decide) wd.heap.size _ (c4 + 1) _ (S.take c4 ++ [(nthS ls c4)]) rfl hown6 _ 0 _ (S.drop c4) rfl (hbk.ext hg6) (by omega) hg6.size ?_; intro a7 c7 w7 hown7 hgrow7; have hg7 := hg6.grown hgrow7 (fun k e => (hown6.1.lt k e).1)) | (refine step_appG layS rfl _ _ 24 9 rfl Tryz.underlying24 (.string ⟨#[]⟩) 16 Tryz.info_string rfl (by decide) wd.heap.size _ c4 _ (S.take c4) rfl (hown.ext ((Ext.refl _).alloc _)) _ 1 1 [(nthS ls c4)] rfl (RdG.new1 layS _ _ _ rfl _) (by omega) (by have := hg.size; simp only [World.size_alloc]; omega) ?_; intro a6 c6 w6 hown6 hgrow6; have hg6 := (hg.alloc (.cells #[.string (nthS ls c4)] 9)).grown hgrow6 (fun k e => (hown.1.lt k e).1)) | (refine step_appG layS rfl _ _ 24 9 rfl Tryz.underlying24 (.string ⟨#[]⟩) 16 Tryz.info_string rfl (by decide) wd.heap.size _ c4 _ (S.take c4) rfl hown _ 1 1 [(nthS ls c4)] rfl hlit (by omega) hg.size ?_; intro a6 c6 w6 hown6 hgrow6; have hg6 := hg.grown hgrow6 (fun k e => (hown.1.lt k e).1)) | (have ho0 := (OwnG.lit layS 9 wd (Nat.le_refl wd.heap.size) [] #[] rfl (by simp)).ext (Ext.refl _).drew; refine step_appG layS rfl _ _ 24 9 rfl Tryz.underlying24 (.string ⟨#[]⟩) 16 Tryz.info_string rfl (by decide) wd.heap.size _ 0 _ [] rfl ho0 _ c4 c4 (S.take c4) rfl (hfr.ext (((Ext.refl wd).alloc (.cells #[] 9)).drew)) (by omega) (by first | omega | (simp only [World.size_alloc, World.size_drew]; omega)) ?_; intro a5 c5 w5 hown hgrow; simp only [Nat.zero_add, List.nil_append] at hown; have hg := (((Ext.refl wd).alloc (.cells #[] 9)).drew).grown hgrow (fun k e => (ho0.1.lt k e).1); have hcl := (Below.cell hg (p := ⟨b3, o3 + c4, none⟩) hb5).trans hck5) | (have ho0 := ((OwnG.lit layS 9 wd (Nat.le_refl wd.heap.size) [] #[] rfl (by simp)).ext ((Ext.refl _).alloc (.cells #[.string (nthS ls c4)] 9))).ext (Ext.refl _).drew; have hl0 := RdG.new1 layS (wd.alloc (.cells #[] 9)) (nthS ls c4) #[.string (nthS ls c4)] rfl 9; rw [World.size_alloc] at hl0; refine step_appG layS rfl _ _ 24 9 rfl Tryz.underlying24 (.string ⟨#[]⟩) 16 Tryz.info_string rfl (by decide) wd.heap.size _ 0 _ [] rfl ho0 _ c4 c4 (S.take c4) rfl (hfr.ext ((((Ext.refl wd).alloc (.cells #[] 9)).alloc (.cells #[.string (nthS ls c4)] 9)).drew)) (by omega) (by first | omega | (simp only [World.size_alloc, World.size_drew]; omega)) ?_; intro a5 c5 w5 hown hgrow; simp only [Nat.zero_add, List.nil_append] at hown; have hg := ((((Ext.refl wd).alloc (.cells #[] 9)).alloc (.cells #[.string (nthS ls c4)] 9)).drew).grown hgrow (fun k e => (ho0.1.lt k e).1); have hcl := (Below.cell hg (p := ⟨b3, o3 + c4, none⟩) hb5).trans hck5; have hlit := RdG.grown (hl0.ext (Ext.refl _).drew) hgrow (by simp [Value.ownBlock])) | (have ho1 := OwnG.lit layS 9 (wd.alloc (.cells #[.string (nthS ls c4)] 9)) (show wd.heap.size ≤ _ by rw [World.size_alloc]; omega) [] #[] rfl (by simp); rw [World.size_alloc] at ho1; have ho0 := ho1.ext (Ext.refl _).drew; have hl0 := RdG.new1 layS wd (nthS ls c4) #[.string (nthS ls c4)] rfl 9; refine step_appG layS rfl _ _ 24 9 rfl Tryz.underlying24 (.string ⟨#[]⟩) 16 Tryz.info_string rfl (by decide) wd.heap.size _ 0 _ [] rfl ho0 _ c4 c4 (S.take c4) rfl (hfr.ext ((((Ext.refl wd).alloc (.cells #[.string (nthS ls c4)] 9)).alloc (.cells #[] 9)).drew)) (by omega) (by first | omega | (simp only [World.size_alloc, World.size_drew]; omega)) ?_; intro a5 c5 w5 hown hgrow; simp only [Nat.zero_add, List.nil_append] at hown; have hg := ((((Ext.refl wd).alloc (.cells #[.string (nthS ls c4)] 9)).alloc (.cells #[] 9)).drew).grown hgrow (fun k e => (ho0.1.lt k e).1); have hcl := (Below.cell hg (p := ⟨b3, o3 + c4, none⟩) hb5).trans hck5; have hlit := RdG.grown ((hl0.ext ((Ext.refl _).alloc (.cells #[] 9))).ext (Ext.refl _).drew) hgrow (by simp [Value.ownBlock])))
            all_goals
              obtain ⟨g7, rfl⟩ := own_some hown7 (by omega)
              have HF := Lib.hid (And.intro hown7 (HW.out.2.trans hg7))
              clear hown7 hg7
              go_wp2
              refine ⟨⟨c4 + 1, some ⟨g7, 0, none⟩, c7, by omega, by go_num, by first | rfl | (simp; omega), ?_, ⟨_, rfl⟩, HF.out.2⟩, ?_⟩
              · rw [sort_step hkl HS.out HJ.out]
                have e : c4 + 1 + 0 = c4 + 1 := by omega
                have := HF.out.1.mono HW.out.2.size
                rw [e] at this
                simpa using this
              · simp only [intOf]
                omega
          · have hbk : RdG layS wd (some ⟨g, j, none⟩) (k - j) (S.drop j) := by have := HW.out.1.rd.tail hj; simpa [layS] using this
            go_wp2
            go_region_law (first | (refine step_appG layS rfl _ _ 24 9 rfl Tryz.underlying24 (.string ⟨#[]⟩) 16 Tryz.info_string rfl (by decide) wd.heap.size _ (j + 1) _ (S.take j ++ [(nthS ls k)]) rfl hown6 _ (k - j) _ (S.drop j) rfl (hbk.ext hg6) (by omega) hg6.size ?_; intro a7 c7 w7 hown7 hgrow7; have hg7 := hg6.grown hgrow7 (fun k e => (hown6.1.lt k e).1)) | (refine step_appG layS rfl _ _ 24 9 rfl Tryz.underlying24 (.string ⟨#[]⟩) 16 Tryz.info_string rfl (by decide) wd.heap.size _ j _ (S.take j) rfl (hown.ext ((Ext.refl _).alloc _)) _ 1 1 [(nthS ls k)] rfl (RdG.new1 layS _ _ _ rfl _) (by omega) (by have := hg.size; simp only [World.size_alloc]; omega) ?_; intro a6 c6 w6 hown6 hgrow6; have hg6 := (hg.alloc (.cells #[.string (nthS ls k)] 9)).grown hgrow6 (fun k e => (hown.1.lt k e).1)) | (refine step_appG layS rfl _ _ 24 9 rfl Tryz.underlying24 (.string ⟨#[]⟩) 16 Tryz.info_string rfl (by decide) wd.heap.size _ j _ (S.take j) rfl hown _ 1 1 [(nthS ls k)] rfl hlit (by omega) hg.size ?_; intro a6 c6 w6 hown6 hgrow6; have hg6 := hg.grown hgrow6 (fun k e => (hown.1.lt k e).1)) | (have ho0 := (OwnG.lit layS 9 wd (Nat.le_refl wd.heap.size) [] #[] rfl (by simp)).ext (Ext.refl _).drew; refine step_appG layS rfl _ _ 24 9 rfl Tryz.underlying24 (.string ⟨#[]⟩) 16 Tryz.info_string rfl (by decide) wd.heap.size _ 0 _ [] rfl ho0 _ j c4 (S.take j) rfl (hfr.ext (((Ext.refl wd).alloc (.cells #[] 9)).drew)) (by omega) (by first | omega | (simp only [World.size_alloc, World.size_drew]; omega)) ?_; intro a5 c5 w5 hown hgrow; simp only [Nat.zero_add, List.nil_append] at hown; have hg := (((Ext.refl wd).alloc (.cells #[] 9)).drew).grown hgrow (fun k e => (ho0.1.lt k e).1); have hcl := (Below.cell hg (p := ⟨b3, o3 + k, none⟩) hb5).trans hck5) | (have ho0 := ((OwnG.lit layS 9 wd (Nat.le_refl wd.heap.size) [] #[] rfl (by simp)).ext ((Ext.refl _).alloc (.cells #[.string (nthS ls k)] 9))).ext (Ext.refl _).drew; have hl0 := RdG.new1 layS (wd.alloc (.cells #[] 9)) (nthS ls k) #[.string (nthS ls k)] rfl 9; rw [World.size_alloc] at hl0; refine step_appG layS rfl _ _ 24 9 rfl Tryz.underlying24 (.string ⟨#[]⟩) 16 Tryz.info_string rfl (by decide) wd.heap.size _ 0 _ [] rfl ho0 _ j c4 (S.take j) rfl (hfr.ext ((((Ext.refl wd).alloc (.cells #[] 9)).alloc (.cells #[.string (nthS ls k)] 9)).drew)) (by omega) (by first | omega | (simp only [World.size_alloc, World.size_drew]; omega)) ?_; intro a5 c5 w5 hown hgrow; simp only [Nat.zero_add, List.nil_append] at hown; have hg := ((((Ext.refl wd).alloc (.cells #[] 9)).alloc (.cells #[.string (nthS ls k)] 9)).drew).grown hgrow (fun k e => (ho0.1.lt k e).1); have hcl := (Below.cell hg (p := ⟨b3, o3 + k, none⟩) hb5).trans hck5; have hlit := RdG.grown (hl0.ext (Ext.refl _).drew) hgrow (by simp [Value.ownBlock])) | (have ho1 := OwnG.lit layS 9 (wd.alloc (.cells #[.string (nthS ls k)] 9)) (show wd.heap.size ≤ _ by rw [World.size_alloc]; omega) [] #[] rfl (by simp); rw [World.size_alloc] at ho1; have ho0 := ho1.ext (Ext.refl _).drew; have hl0 := RdG.new1 layS wd (nthS ls k) #[.string (nthS ls k)] rfl 9; refine step_appG layS rfl _ _ 24 9 rfl Tryz.underlying24 (.string ⟨#[]⟩) 16 Tryz.info_string rfl (by decide) wd.heap.size _ 0 _ [] rfl ho0 _ j c4 (S.take j) rfl (hfr.ext ((((Ext.refl wd).alloc (.cells #[.string (nthS ls k)] 9)).alloc (.cells #[] 9)).drew)) (by omega) (by first | omega | (simp only [World.size_alloc, World.size_drew]; omega)) ?_; intro a5 c5 w5 hown hgrow; simp only [Nat.zero_add, List.nil_append] at hown; have hg := ((((Ext.refl wd).alloc (.cells #[.string (nthS ls k)] 9)).alloc (.cells #[] 9)).drew).grown hgrow (fun k e => (ho0.1.lt k e).1); have hcl := (Below.cell hg (p := ⟨b3, o3 + k, none⟩) hb5).trans hck5; have hlit := RdG.grown ((hl0.ext ((Ext.refl _).alloc (.cells #[] 9))).ext (Ext.refl _).drew) hgrow (by simp [Value.ownBlock])))
            all_goals
              obtain ⟨g7, rfl⟩ := own_some hown7 (by omega)
              have HF := Lib.hid (And.intro hown7 (HW.out.2.trans hg7))
              clear hown7 hg7
              go_wp2
              refine ⟨⟨k + 1, some ⟨g7, 0, none⟩, c7, by omega, by go_num, by first | rfl | (simp; omega), ?_, ⟨_, rfl⟩, HF.out.2⟩, ?_⟩
              · rw [sort_step hkl HS.out HJ.out]
                have e : j + 1 + (k - j) = k + 1 := by omega
                have := HF.out.1.mono HW.out.2.size
                rw [e] at this
                simpa using this
              · simp only [intOf]
                omega
    · obtain rfl : k = q := by omega
      have HO := Lib.hid (And.intro ho hx)
      clear ho hx
      go_wp2
      go_ret2
      rw [HC.out.1, HC.out.2]
      refine ⟨_, rfl, _, _, _, rfl, by omega, ⟨?_, fun s hs => HR.out.2.1.2 s (sortC_mem.1 hs)⟩, HR.out.2.2.2.trans HO.out.2⟩
      have := HO.out.1.mono HR.out.2.2.2.size
      rwa [List.take_of_length_le (by omega)] at this


set_option maxRecDepth 100000 in
theorem implAreSorted_any (a a3 a2 : Option Addr) (n c q c3 m c2 : Nat) (ss ls : List ByteArray) (ig : List Int) (w : World) (hr : RdS w a n ss) (hcap : n ≤ c) (hr3 : RdS w a3 q ls) (hr2 : RdI w a2 m ig) (hmax : MaxW w) :
    Calls Tryz.prog 9 #[.slice a n c, .slice a3 q c3, .slice a2 m c2] w fun e w' => e = .returned (.tuple #[.bool (asB ss ls ig), .int .i64 (codeL ss ls ig)]) ∧ Ext w w' := by
  go_enter Tryz.func9, Tryz.ntmps9
  go_wp2_with fail
  refine (listSorter_any _ _ _ _ _ _ _ _ _ _ _ _ _ hr hcap hr2 hr3 hmax).mono ?_
  rintro e w1 ⟨ua, un, uc, va, vn, vc, rfl, huv, x1⟩
  cases hc : (codeL ss ls ig == 0)
  · have HC := Lib.hid (show asB ss ls ig = false by rw [asB, decide_eq_false (by simpa using hc)]; rfl)
    go_wp2
    go_ret2
    rw [HC.out]
    exact ⟨rfl, x1.alloc _⟩
  · have h0 : codeL ss ls ig = 0 := by simpa using hc
    obtain ⟨hu, hv⟩ := huv h0
    cases hu
    cases hv
    have HC := Lib.hid (show asB ss ls ig = sortedC (compC ss ig) ls by rw [asB, decide_eq_true h0, Bool.true_and])
    have hok := code_ok h0 hr3.2
    have HZ := Lib.hid (And.intro h0 hok.2.1)
    have xb := x1.alloc (.cells #[.slice a n c, .slice a2 m c2] 46)
    have HR := Lib.hid (And.intro xb (And.intro (hr3.ext xb) (show CmpOk (w1.alloc (.cells #[.slice a n c, .slice a2 m c2] 46)) a n a2 m ss ig from ⟨hr.ext xb, hr2.ext xb, hok.1, hmax.ext xb⟩)))
    clear x1 xb hok huv h0
    go_wp2_with fail
    refine (isSortedW_any _ _ _ _ _ _ _ _ _ _ _ _ _ HR.out.2.1 HR.out.2.2 HZ.out.2).mono ?_
    rintro e w2 ⟨rfl, x2⟩
    go_wp2
    go_ret2
    rw [HC.out, HZ.out.1]
    exact ⟨rfl, HR.out.1.trans x2⟩

set_option maxRecDepth 100000 in
theorem specAreSorted_any (a a3 a2 : Option Addr) (n c q c3 m c2 : Nat) (ss ls : List ByteArray) (ig : List Int) (w : World) (hr : RdS w a n ss) (hr3 : RdS w a3 q ls) (hr2 : RdI w a2 m ig) :
    Calls Tryz.prog 10 #[.slice a n c, .slice a3 q c3, .slice a2 m c2] w fun e w' => e = .returned (.tuple #[.bool (asB ss ls ig), .int .i64 (codeL ss ls ig)]) ∧ Ext w w' := by
  go_enter Tryz.func10, Tryz.ntmps10
  go_wp2_with fail
  refine (l06Code_any _ _ _ _ _ _ _ _ _ _ _ _ _ hr hr3 hr2).mono ?_
  rintro e w1 ⟨rfl, x1⟩
  cases hc : (codeL ss ls ig == 0)
  · have HC := Lib.hid (show asB ss ls ig = false by rw [asB, decide_eq_false (by simpa using hc)]; rfl)
    go_wp2
    go_ret2
    rw [HC.out]
    exact ⟨rfl, x1⟩
  · have h0 : codeL ss ls ig = 0 := by simpa using hc
    have HC := Lib.hid (show asB ss ls ig = sortedC (compC ss ig) ls by rw [asB, decide_eq_true h0, Bool.true_and])
    have hok := code_ok h0 hr3.2
    have hl := hok.1
    have HZ := Lib.hid h0
    clear hok h0
    go_wp2_with fail
    refine (l06Sorted_any _ _ _ _ _ _ _ _ _ _ _ _ _ (hr.ext x1) (hr3.ext x1) (hr2.ext x1) hl).mono ?_
    rintro e w2 ⟨rfl, x2⟩
    go_wp2
    go_ret2
    rw [HC.out, HZ.out]
    exact ⟨rfl, x1.trans x2⟩

end Go.Proofs.YtdicjpkcgeofjaaGreatDoor

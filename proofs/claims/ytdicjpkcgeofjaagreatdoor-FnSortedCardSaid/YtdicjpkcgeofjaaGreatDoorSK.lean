/-
  The sorter's comparison of two phrases.
-/
import Derived.Test.YtdicjpkcgeofjaaGreatDoorSHL
import Derived.Test.YtdicjpkcgeofjaaGreatDoorSG
namespace Go.Proofs.YtdicjpkcgeofjaaGreatDoor
open Go.RowKit

/-- The first number, or the second if the first is 0. -/
def orI (x y : Int) : Int := if x = 0 then y else x

set_option maxRecDepth 100000 in
theorem cmpOr_any (b : Nat) (x y : Int) (w : World) (h0 : w.cell? ⟨b, 0, none⟩ = some (.int .i64 x)) (h1 : w.cell? ⟨b, 1, none⟩ = some (.int .i64 y)) :
    Calls Tryz.prog 45 #[.slice (some ⟨b, 0, none⟩) 2 2] w fun e w' => e = .returned (.int .i64 (orI x y)) ∧ w = w' := by
  go_enter Tryz.func45, Tryz.ntmps45
  go_wp2
  go_loopw [8] (fun i wr => w = wr ∧ (i = .int .i64 0 ∨ i = .int .i64 1 ∧ x = 0 ∨ i = .int .i64 2 ∧ x = 0 ∧ y = 0)) (fun i _ => 2 - (intOf i).toNat)
  case atStart => exact ⟨rfl, .inl rfl⟩
  case round =>
    obtain ⟨rfl, rfl | ⟨rfl, h⟩ | ⟨rfl, h, h'⟩⟩ := hrel
    · cases hx : (x == 0)
      · have HX := Lib.hid (show orI x y = x from if_neg (by simpa using hx))
        have hx' : (x != 0) = true := by rw [bne, hx]; rfl
        go_wp2
        go_ret
        exact ⟨by rw [HX.out]; rfl, rfl⟩
      · have HX := Lib.hid (show x = 0 by simpa using hx)
        have hx' : (x != 0) = false := by rw [bne, hx]; rfl
        go_wp2
        go_roundw
        case rel => exact ⟨trivial, .inr (.inl ⟨rfl, HX.out⟩)⟩
        case measure => simp [intOf]
    · have HX := Lib.hid h
      clear h
      cases hy : (y == 0)
      · have HY := Lib.hid (show orI x y = y from if_pos HX.out)
        have hy' : (y != 0) = true := by rw [bne, hy]; rfl
        go_wp2
        go_ret
        exact ⟨by rw [HY.out]; rfl, rfl⟩
      · have HY := Lib.hid (show y = 0 by simpa using hy)
        have hy' : (y != 0) = false := by rw [bne, hy]; rfl
        go_wp2
        go_roundw
        case rel => exact ⟨trivial, .inr (.inr ⟨rfl, HX.out, HY.out⟩)⟩
        case measure => simp [intOf]
    · have HX := Lib.hid (show orI x y = 0 by rw [orI, if_pos h, h'])
      clear h h'
      go_wp2
      go_ret
      exact ⟨by rw [HX.out]; rfl, rfl⟩

theorem spE_nil {ss : List ByteArray} {s : ByteArray} (hp : phraseB s = true) : spL ss s = spE ss s [] := by
  have hw : wordsB (splitC 32 s) = true := by rw [phraseB, Bool.and_eq_true] at hp; exact hp.2
  rw [spL, spE, phraseT_good hw]
  apply List.map_congr_left
  intro u _
  rw [dropI, List.filter_eq_self.2]
  intro x _
  rfl
theorem spE_drop {ss : List ByteArray} {ig : List Int} {s : ByteArray} (hp : phraseB s = true) : (spL ss s).map (dropI ig) = spE ss s ig := by
  have hw : wordsB (splitC 32 s) = true := by rw [phraseB, Bool.and_eq_true] at hp; exact hp.2
  rw [spL, spE, phraseT_good hw, List.map_map]
  rfl
theorem or_comp {ss : List ByteArray} {ig : List Int} {s t : ByteArray} (hp : phraseB s = true) (hq : phraseB t = true) :
    orI (cmpW ((spL ss s).map (dropI ig)) ((spL ss t).map (dropI ig))) (cmpW (spL ss s) (spL ss t)) = compC ss ig s t := by
  rw [spE_drop hp, spE_drop hq, spE_nil hp, spE_nil hq]
  rfl

set_option maxRecDepth 100000 in
set_option maxHeartbeats 2000000 in
theorem compare_any (a1 : Option Addr) (n1 c1 : Nat) (a2 : Option Addr) (m c2 : Nat) (s t : ByteArray) (ss : List ByteArray) (ig : List Int) (w : World) (hr : RdS w a1 n1 ss) (hr2 : RdI w a2 m ig) (hs : s.size ≤ 1073741824) (ht : t.size ≤ 1073741824) (hl : lettersOk ss) (hp : phraseB s = true) (hq : phraseB t = true) (hcs : canB ss s = true) (hct : canB ss t = true) (hmax : MaxW w) :
    Calls Tryz.prog 25 #[.agg #[.slice a1 n1 c1, .slice a2 m c2], .string s, .string t] w fun e w' => e = .returned (.int .i64 (compC ss ig s t)) ∧ Ext w w' := by
  have xb := (Ext.refl w).alloc (.cells #[.slice a1 n1 c1, .slice a2 m c2] 46)
  have hX : HoldsX (w.alloc (.cells #[.slice a1 n1 c1, .slice a2 m c2] 46)) w.heap.size (.slice a1 n1 c1) (.slice a2 m c2) := ⟨by simp, by simp [World.cell?_alloc_at], by simp [World.cell?_alloc_at]⟩
  have HB := Lib.hid (And.intro xb (And.intro hX (And.intro (hr.ext xb) (And.intro (hr2.ext xb) (hmax.ext xb)))))
  have HC := Lib.hid (or_comp (ss := ss) (ig := ig) hp hq)
  have HS := Lib.hid (can_spells hcs)
  have HT := Lib.hid (can_spells hct)
  clear xb hX hp hq hcs hct
  go_enter Tryz.func25, Tryz.ntmps25
  go_wp2_with fail
  generalize hwb : w.alloc (.cells #[.slice a1 n1 c1, .slice a2 m c2] 46) = wb at HB ⊢
  clear hwb
  generalize w.heap.size = b at HB ⊢
  obtain ⟨hbl, hck0, hck1⟩ := HB.out.2.1
  refine (spelled_any _ _ _ _ _ _ HB.out.2.2.1 hs hl HB.out.2.2.2.2).mono ?_
  rw [HS.out]
  rintro e w1 ⟨a3, c3, rfl, r3, x1⟩
  simp only [Option.getD_some, Option.isSome_some] at r3 ⊢
  replace hck0 := (Below.cell x1 (p := ⟨b, 0, none⟩) hbl).trans hck0
  replace hck1 := (Below.cell x1 (p := ⟨b, 1, none⟩) hbl).trans hck1
  replace hbl := Nat.lt_of_lt_of_le hbl x1.size
  have H1 := Lib.hid (And.intro x1 r3)
  clear x1 r3
  go_wp2_with fail
  refine (spelled_any _ _ _ _ _ _ (HB.out.2.2.1.ext H1.out.1) ht hl (HB.out.2.2.2.2.ext H1.out.1)).mono ?_
  rw [HT.out]
  rintro e wr ⟨a4, c4, rfl, r4, x2⟩
  simp only [Option.getD_some, Option.isSome_some] at r4 ⊢
  replace hck0 := (Below.cell x2 (p := ⟨b, 0, none⟩) hbl).trans hck0
  replace hck1 := (Below.cell x2 (p := ⟨b, 1, none⟩) hbl).trans hck1
  replace hbl := Nat.lt_of_lt_of_le hbl x2.size
  have HX := Lib.hid (HB.out.1.trans (H1.out.1.trans x2))
  have HR := Lib.hid (And.intro (H1.out.2.ext x2) (And.intro r4 (HB.out.2.2.2.1.ext (H1.out.1.trans x2))))
  clear x2 r4 H1 HB HS HT
  generalize spL ss s = p at HC HR ⊢
  generalize spL ss t = q at HC HR ⊢
  go_wp2
  refine wp_region_held_drew (S := Ext wr) (by kernel_rfl) (Ext.refl _).drew (fun hHeld => ?_)
  generalize hwd : World.drew _ = wd at hHeld ⊢
  clear hwd
  refine takeYesH 0 25 ?v1 rfl rfl (by kernel_rfl) (by kernel_rfl) (by kernel_rfl) (fun _ _ _ _ h => h) (by kernel_rfl) hHeld ?y1 ?r1
  case y1 =>
    intro wq hq
    have z0 := (Below.cell hq (p := ⟨b, 0, none⟩) hbl).trans hck0
    have z1 := (Below.cell hq (p := ⟨b, 1, none⟩) hbl).trans hck1
    go_simp
    first | done | with_reducible rfl
  simp only [Act.put, List.setIfInBounds_toArray, List.set_cons_zero, List.set_cons_succ]
  refine takeYesH 1 26 ?v2 rfl rfl (by kernel_rfl) (by kernel_rfl) (by kernel_rfl) (fun _ _ _ _ h => h) (by kernel_rfl) hHeld ?y2 ?r2
  case y2 => intro wq hq; go_simp; first | done | with_reducible rfl
  simp only [Act.put, List.setIfInBounds_toArray, List.set_cons_zero, List.set_cons_succ]
  refine takeYesH 3 28 ?v3 rfl rfl (by kernel_rfl) (by kernel_rfl) (by kernel_rfl) (fun _ _ _ _ h => h) (by kernel_rfl) hHeld ?y3 ?r3
  case y3 =>
    intro wq hq
    have z0 := (Below.cell hq (p := ⟨b, 0, none⟩) hbl).trans hck0
    have z1 := (Below.cell hq (p := ⟨b, 1, none⟩) hbl).trans hck1
    go_simp
    first | done | with_reducible rfl
  simp only [Act.put, List.setIfInBounds_toArray, List.set_cons_zero, List.set_cons_succ]
  refine takeYesH 4 29 ?v4 rfl rfl (by kernel_rfl) (by kernel_rfl) (by kernel_rfl) (fun _ _ _ _ h => h) (by kernel_rfl) hHeld ?y4 ?r4
  case y4 => intro wq hq; go_simp; first | done | with_reducible rfl
  simp only [Act.put, List.setIfInBounds_toArray, List.set_cons_zero, List.set_cons_succ]
  refine takeYesH 7 32 ?v5 rfl rfl (by kernel_rfl) (by kernel_rfl) (by kernel_rfl) (fun _ _ _ _ h => h) (by kernel_rfl) hHeld ?y5 ?r5
  case y5 => intro wq hq; go_simp; first | done | with_reducible rfl
  simp only [Act.put, List.setIfInBounds_toArray, List.set_cons_zero, List.set_cons_succ]
  refine takeYesH 8 33 ?v6 rfl rfl (by kernel_rfl) (by kernel_rfl) (by kernel_rfl) (fun _ _ _ _ h => h) (by kernel_rfl) hHeld ?y6 ?r6
  case y6 => intro wq hq; go_simp; first | done | with_reducible rfl
  simp only [Act.put, List.setIfInBounds_toArray, List.set_cons_zero, List.set_cons_succ]
  refine wpAnyH_ready (rs := [2]) (by kernel_rfl) (by simp) ?_
  refine AllReadyH.cons rfl (fun K hK => ?_) AllReadyH.nil
  go_simp
  refine (less_any _ _ _ _ _ _ _ _ _ ig _ _ (HR.out.1.ext hHeld) (HR.out.2.2.ext hHeld)).mono ?_
  rintro e w5 ⟨a5, c5, rfl, r5, x5⟩
  rw [List.length_map] at r5
  clear hck0 hck1
  go_wp2_with fail
  refine hK.out _ _ (hHeld.trans x5) (fun hHeld => ?_)
  clear hK K
  try simp only [Act.put, List.setIfInBounds_toArray, List.set_cons_zero, List.set_cons_succ]
  refine wpAnyH_ready (rs := [5]) (by kernel_rfl) (by simp) ?_
  refine AllReadyH.cons rfl (fun K hK => ?_) AllReadyH.nil
  go_simp
  refine (less_any _ _ _ _ _ _ _ _ _ ig _ _ (HR.out.2.1.ext hHeld) (HR.out.2.2.ext hHeld)).mono ?_
  rintro e w6 ⟨a6, c6, rfl, r6, x6⟩
  rw [List.length_map] at r6
  replace r5 := r5.ext x6
  go_wp2_with fail
  refine hK.out _ _ (hHeld.trans x6) (fun hHeld => ?_)
  clear hK K
  try simp only [Act.put, List.setIfInBounds_toArray, List.set_cons_zero, List.set_cons_succ]
  refine wpAnyH_ready (rs := [6]) (by kernel_rfl) (by simp) ?_
  refine AllReadyH.cons rfl (fun K hK => ?_) AllReadyH.nil
  go_simp
  refine (compareSpellings_any _ _ _ _ _ _ _ _ _ r5 r6).mono ?_
  rintro e w7 ⟨rfl, rfl⟩
  go_wp2_with fail
  refine hK.out _ _ (hHeld.trans (Ext.refl _)) (fun hHeld => ?_)
  clear hK K
  try simp only [Act.put, List.setIfInBounds_toArray, List.set_cons_zero, List.set_cons_succ]
  refine wpAnyH_ready (rs := [9]) (by kernel_rfl) (by simp) ?_
  refine AllReadyH.cons rfl (fun K hK => ?_) AllReadyH.nil
  go_simp
  refine (compareSpellings_any _ _ _ _ _ _ _ _ _ (HR.out.1.ext hHeld) (HR.out.2.1.ext hHeld)).mono ?_
  rintro e w8 ⟨rfl, rfl⟩
  go_wp2_with fail
  refine hK.out _ _ (hHeld.trans (Ext.refl _)) (fun hHeld => ?_)
  clear hK K
  try simp only [Act.put, List.setIfInBounds_toArray, List.set_cons_zero, List.set_cons_succ]
  refine wpAnyH_ready (rs := [10]) (by kernel_rfl) (by simp) ?_
  refine AllReadyH.cons rfl (fun K hK => ?_) AllReadyH.nil
  go_simp
  go_wp2_with fail
  refine hK.out _ _ (hHeld.trans ((Ext.refl _).alloc _)) (fun hHeld => ?_)
  clear hK K
  try simp only [Act.put, List.setIfInBounds_toArray, List.set_cons_zero, List.set_cons_succ]
  refine wpAnyH_ready (rs := [11]) (by kernel_rfl) (by simp) ?_
  refine AllReadyH.cons rfl (fun K hK => ?_) AllReadyH.nil
  go_simp
  refine (cmpOr_any _ (cmpW (p.map (dropI ig)) (q.map (dropI ig))) (cmpW p q) _ (by simp [World.cell?_alloc_at]) (by simp [World.cell?_alloc_at])).mono ?_
  rintro e w9 ⟨rfl, rfl⟩
  go_wp2_with fail
  refine hK.out _ _ (hHeld.trans (Ext.refl _)) (fun hHeld => ?_)
  clear hK K
  try simp only [Act.put, List.setIfInBounds_toArray, List.set_cons_zero, List.set_cons_succ]
  refine takeYesH 12 6 ?v7 rfl rfl (by kernel_rfl) (by kernel_rfl) (by kernel_rfl) (fun _ _ _ _ h => h) (by kernel_rfl) hHeld ?y7 ?r7
  case y7 => intro wq hq; go_simp; first | done | with_reducible rfl
  simp only [Act.put, List.setIfInBounds_toArray, List.set_cons_zero, List.set_cons_succ]
  refine wpAnyH_done (by kernel_rfl) ?_ _
  go_wp2
  go_ret
  exact ⟨by rw [HC.out]; rfl, HX.out.trans hHeld⟩

end Go.Proofs.YtdicjpkcgeofjaaGreatDoor

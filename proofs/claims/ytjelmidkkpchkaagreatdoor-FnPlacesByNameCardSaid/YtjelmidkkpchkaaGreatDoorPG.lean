/-
  The reference's draws of places and registers.
-/
import Derived.Test.YtjelmidkkpchkaaGreatDoorPF
import Derived.Test.YtjelmidkkpchkaaGreatDoorG4
import Derived.Test.YtjelmidkkpchkaaGreatDoorPBL
namespace Go.Proofs.YtjelmidkkpchkaaGreatDoor
open Go.RowKit

theorem ansP (a : Option Addr) (n c : Nat) (xs : List NameV) (w : World) (h : RdName w a n xs) : Calls Tryz.prog 148 #[.slice a n c] w fun e w' => ∃ b, e = .returned (.bool b) ∧ Ext w w' := (specAreNames_any a n c xs w h).mono fun _ _ k => ⟨_, k.1, k.2⟩

set_option maxRecDepth 100000 in
set_option maxHeartbeats 8000000 in
theorem l11Draw_any (g : Nat) (w : World) (hs : Src w g) :
    Calls Tryz.prog 116 #[.pointer (some ⟨g, 0, none⟩)] w (DrewPl w g) := by
  have hg := hs.lt
  have hwg : w.heap.size ≠ g := by omega
  have HS := Lib.hid (And.intro (hs.ext ((Ext.refl w).alloc (.cells #[.string ⟨#[]⟩, .int .i64 0, .int .i64 0, .int .i64 0, .slice none 0 0] 67))) (Box.new w #[.string ⟨#[]⟩, .int .i64 0, .int .i64 0, .int .i64 0, .slice none 0 0] 67))
  clear hs
  go_enter Tryz.func116, Tryz.ntmps116
  go_wp2_with fail
  refine (l11Good_any _ _ HS.out.1).mono ?_
  rintro e w1 ⟨⟨x0, x1, x2, x3, xn⟩, ⟨ra, rn, rc⟩, rfl, hok, hd⟩
  rw [valPlace]
  simp only
  have HX := Lib.hid hok.2
  have hR1 := HS.out.2.drew hd hwg
  have xb := (Ext.refl w1).alloc (.cells #[.string x0, .int .i64 x1, .int .i64 x2, .int .i64 x3, .slice ra rn rc] 67)
  have hRP : w.heap.size ≠ w1.heap.size := Nat.ne_of_lt hR1.lt
  have hgb : g < w1.heap.size := hd.1.lt
  have hbg : w1.heap.size ≠ g := Nat.ne_of_gt hgb
  have hwb : (w.alloc (.cells #[.string ⟨#[]⟩, .int .i64 0, .int .i64 0, .int .i64 0, .slice none 0 0] 67)).heap.size ≤ w1.heap.size := hd.size
  have hw1 := hR1.lt
  have hS0 := Lib.hid (And.intro (hd.ext xb) (And.intro (hR1.ext xb) (And.intro (Box.new w1 #[.string x0, .int .i64 x1, .int .i64 x2, .int .i64 x3, .slice ra rn rc] 67) ((hok.1.mono (Nat.le_trans (Nat.le_of_lt (by simp)) (Nat.le_refl (w.alloc (.cells #[.string ⟨#[]⟩, .int .i64 0, .int .i64 0, .int .i64 0, .slice none 0 0] 67)).heap.size)) : OwnG layName 69 w1 w.heap.size ra rn rc xn).ext xb))))
  clear hok hd hR1 xb
  go_wp2_with fail
  refine (l01Next_any _ _ _ hS0.out.1.1 (by omega)).mono ?_
  rintro e w3 ⟨y, rfl, hy0, hy1, hd⟩
  have hS := Lib.hid (And.intro (hS0.out.1.trans hd.drew) (And.intro (hS0.out.2.1.drew hd.drew hwg) (And.intro (hS0.out.2.2.1.drew hd.drew hbg) (hS0.out.2.2.2.drawn hd.drew.2 hg))))
  have hw3 : w.heap.size < w3.heap.size := hS.out.2.1.lt
  clear hd hS0 hy1
  generalize w1.heap.size = bP at hS hRP hgb hbg hwb
  by_cases y0 : y = 0
  · subst y0
    go_wp2_with fail
    refine (l01DrawWord_any _ _ hS.out.1.1).mono ?_
    rintro e w4 ⟨u, rfl, hu, hd⟩
    have hT := Lib.hid (And.intro (hS.out.1.trans hd) (And.intro (hS.out.2.1.drew hd hwg) (And.intro (hS.out.2.2.1.drew hd hbg) (hS.out.2.2.2.drawn (hd).2 hg))))
    clear hd
    have a0 : _ = some (Value.string ⟨#[]⟩) := hT.out.2.1.cell 0
    have a1 : _ = some (Value.int .i64 0) := hT.out.2.1.cell 1
    have a2 : _ = some (Value.int .i64 0) := hT.out.2.1.cell 2
    have a3 : _ = some (Value.int .i64 0) := hT.out.2.1.cell 3
    have a4 : _ = some (Value.slice none 0 0) := hT.out.2.1.cell 4
    have f0 := hT.out.2.1.frozen 0
    have f1 := hT.out.2.1.frozen 1
    have f2 := hT.out.2.1.frozen 2
    have f3 := hT.out.2.1.frozen 3
    have f4 := hT.out.2.1.frozen 4
    have c0 : _ = some (Value.string x0) := hT.out.2.2.1.cell 0
    have c1 : _ = some (Value.int .i64 x1) := hT.out.2.2.1.cell 1
    have c2 : _ = some (Value.int .i64 x2) := hT.out.2.2.1.cell 2
    have c3 : _ = some (Value.int .i64 x3) := hT.out.2.2.1.cell 3
    have c4 : _ = some (Value.slice ra rn rc) := hT.out.2.2.1.cell 4
    have d0 := hT.out.2.2.1.frozen 0
    go_wp2
    exact bodyPost_ret (v := .agg #[.string u, .int .i64 x1, .int .i64 x2, .int .i64 x3, .slice ra rn rc]) (by simp [results, Tryz.results116, go_sem, a0, a1, a2, a3, a4]) rfl ⟨⟨u, x1, x2, x3, xn⟩, ⟨ra, rn, rc⟩, rfl, ⟨own_off5 (own_offB (hT.out.2.2.2) (hT.out.2.2.1) 0 (.string u)) (Box.far (hT.out.2.1) hRP 0 (.string u)) _ _ _ _ _, ⟨by simp only; omega, HX.out.2.1, HX.out.2.2⟩⟩, (((((Drew.pre ((Ext.refl _).alloc _) ((hT.out.1).setCell hwb hgb 0 (.string u))).setCell (Nat.le_refl _) hg 0 _).setCell (Nat.le_refl _) hg 1 _).setCell (Nat.le_refl _) hg 2 _).setCell (Nat.le_refl _) hg 3 _).setCell (Nat.le_refl _) hg 4 _⟩
  by_cases y1 : y = 1
  · subst y1
    go_wp2_with fail
    refine (l01Pick_any _ _ _ _ _ _ (hS.out.1.1.ext ((Ext.refl _).alloc _)) (RdI.lits w3 [-1, 19, 20] _ rfl (by decide)) (by decide) (by rintro ad e; cases e; exact Nat.ne_of_gt hS.out.1.1.lt)).mono ?_
    rintro e w4 ⟨u, rfl, _, hd⟩
    have hd2 := Drew.pre ((Ext.refl w3).alloc _) hd.drew
    have hT := Lib.hid (And.intro (hS.out.1.trans hd2) (And.intro (hS.out.2.1.drew hd2 hwg) (And.intro (hS.out.2.2.1.drew hd2 hbg) (hS.out.2.2.2.drawn (hd2).2 hg))))
    clear hd hd2
    have a0 : _ = some (Value.string ⟨#[]⟩) := hT.out.2.1.cell 0
    have a1 : _ = some (Value.int .i64 0) := hT.out.2.1.cell 1
    have a2 : _ = some (Value.int .i64 0) := hT.out.2.1.cell 2
    have a3 : _ = some (Value.int .i64 0) := hT.out.2.1.cell 3
    have a4 : _ = some (Value.slice none 0 0) := hT.out.2.1.cell 4
    have f0 := hT.out.2.1.frozen 0
    have f1 := hT.out.2.1.frozen 1
    have f2 := hT.out.2.1.frozen 2
    have f3 := hT.out.2.1.frozen 3
    have f4 := hT.out.2.1.frozen 4
    have c0 : _ = some (Value.string x0) := hT.out.2.2.1.cell 0
    have c1 : _ = some (Value.int .i64 x1) := hT.out.2.2.1.cell 1
    have c2 : _ = some (Value.int .i64 x2) := hT.out.2.2.1.cell 2
    have c3 : _ = some (Value.int .i64 x3) := hT.out.2.2.1.cell 3
    have c4 : _ = some (Value.slice ra rn rc) := hT.out.2.2.1.cell 4
    have d1 := hT.out.2.2.1.frozen 1
    go_wp2
    exact bodyPost_ret (v := .agg #[.string x0, .int .i64 u, .int .i64 x2, .int .i64 x3, .slice ra rn rc]) (by simp [results, Tryz.results116, go_sem, a0, a1, a2, a3, a4]) rfl ⟨⟨x0, u, x2, x3, xn⟩, ⟨ra, rn, rc⟩, rfl, ⟨own_off5 (own_offB (hT.out.2.2.2) (hT.out.2.2.1) 1 (.int .i64 u)) (Box.far (hT.out.2.1) hRP 1 (.int .i64 u)) _ _ _ _ _, HX.out⟩, (((((Drew.pre ((Ext.refl _).alloc _) ((hT.out.1).setCell hwb hgb 1 (.int .i64 u))).setCell (Nat.le_refl _) hg 0 _).setCell (Nat.le_refl _) hg 1 _).setCell (Nat.le_refl _) hg 2 _).setCell (Nat.le_refl _) hg 3 _).setCell (Nat.le_refl _) hg 4 _⟩
  by_cases y2 : y = 2
  · subst y2
    go_wp2_with fail
    refine (l02Draw_any _ _ hS.out.1.1).mono ?_
    rintro e w4 ⟨⟨u0, u1⟩, rfl, _, hd⟩
    rw [valSpan]
    simp only
    have hT := Lib.hid (And.intro (hS.out.1.trans hd) (And.intro (hS.out.2.1.drew hd hwg) (And.intro (hS.out.2.2.1.drew hd hbg) (hS.out.2.2.2.drawn (hd).2 hg))))
    clear hd
    have a0 : _ = some (Value.string ⟨#[]⟩) := hT.out.2.1.cell 0
    have a1 : _ = some (Value.int .i64 0) := hT.out.2.1.cell 1
    have a2 : _ = some (Value.int .i64 0) := hT.out.2.1.cell 2
    have a3 : _ = some (Value.int .i64 0) := hT.out.2.1.cell 3
    have a4 : _ = some (Value.slice none 0 0) := hT.out.2.1.cell 4
    have f0 := hT.out.2.1.frozen 0
    have f1 := hT.out.2.1.frozen 1
    have f2 := hT.out.2.1.frozen 2
    have f3 := hT.out.2.1.frozen 3
    have f4 := hT.out.2.1.frozen 4
    have c0 : _ = some (Value.string x0) := hT.out.2.2.1.cell 0
    have c1 : _ = some (Value.int .i64 x1) := hT.out.2.2.1.cell 1
    have c2 : _ = some (Value.int .i64 x2) := hT.out.2.2.1.cell 2
    have c3 : _ = some (Value.int .i64 x3) := hT.out.2.2.1.cell 3
    have c4 : _ = some (Value.slice ra rn rc) := hT.out.2.2.1.cell 4
    have d2 := hT.out.2.2.1.frozen 2
    have d3 := hT.out.2.2.1.frozen 3
    go_wp2
    exact bodyPost_ret (v := .agg #[.string x0, .int .i64 x1, .int .i64 u0, .int .i64 u1, .slice ra rn rc]) (by simp [results, Tryz.results116, go_sem, a0, a1, a2, a3, a4]) rfl ⟨⟨x0, x1, u0, u1, xn⟩, ⟨ra, rn, rc⟩, rfl, ⟨own_off5 (own_offB (own_offB (hT.out.2.2.2) (hT.out.2.2.1) 2 (.int .i64 u0)) ((hT.out.2.2.1).set 2 (.int .i64 u0)) 3 (.int .i64 u1)) (Box.far (Box.far (hT.out.2.1) hRP 2 (.int .i64 u0)) hRP 3 (.int .i64 u1)) _ _ _ _ _, HX.out⟩, (((((Drew.pre ((Ext.refl _).alloc _) (((hT.out.1).setCell hwb hgb 2 (.int .i64 u0)).setCell hwb hgb 3 (.int .i64 u1))).setCell (Nat.le_refl _) hg 0 _).setCell (Nat.le_refl _) hg 1 _).setCell (Nat.le_refl _) hg 2 _).setCell (Nat.le_refl _) hg 3 _).setCell (Nat.le_refl _) hg 4 _⟩
  by_cases y3 : y = 3
  · subst y3
    go_wp2_with fail
    refine (l09List_any _ _ hS.out.1.1 ansP).mono ?_
    rintro e w4 ⟨ua, uc, us, rfl, hul, hush, ho, hd⟩
    have hT := Lib.hid (And.intro (hS.out.1.trans hd) (And.intro (hS.out.2.1.drew hd hwg) (And.intro (hS.out.2.2.1.drew hd hbg) (hS.out.2.2.2.drawn (hd).2 hg))))
    have ho4 := Lib.hid (ho.mono (Nat.le_of_lt hw3))
    clear hd ho
    have a0 : _ = some (Value.string ⟨#[]⟩) := hT.out.2.1.cell 0
    have a1 : _ = some (Value.int .i64 0) := hT.out.2.1.cell 1
    have a2 : _ = some (Value.int .i64 0) := hT.out.2.1.cell 2
    have a3 : _ = some (Value.int .i64 0) := hT.out.2.1.cell 3
    have a4 : _ = some (Value.slice none 0 0) := hT.out.2.1.cell 4
    have f0 := hT.out.2.1.frozen 0
    have f1 := hT.out.2.1.frozen 1
    have f2 := hT.out.2.1.frozen 2
    have f3 := hT.out.2.1.frozen 3
    have f4 := hT.out.2.1.frozen 4
    have c0 : _ = some (Value.string x0) := hT.out.2.2.1.cell 0
    have c1 : _ = some (Value.int .i64 x1) := hT.out.2.2.1.cell 1
    have c2 : _ = some (Value.int .i64 x2) := hT.out.2.2.1.cell 2
    have c3 : _ = some (Value.int .i64 x3) := hT.out.2.2.1.cell 3
    have c4 : _ = some (Value.slice ra rn rc) := hT.out.2.2.1.cell 4
    have d4 := hT.out.2.2.1.frozen 4
    go_wp2
    exact bodyPost_ret (v := .agg #[.string x0, .int .i64 x1, .int .i64 x2, .int .i64 x3, .slice ua us.length uc]) (by simp [results, Tryz.results116, go_sem, a0, a1, a2, a3, a4]) rfl ⟨⟨x0, x1, x2, x3, us⟩, ⟨ua, us.length, uc⟩, rfl, ⟨own_off5 (own_offB (ho4.out) (hT.out.2.2.1) 4 (.slice ua us.length uc)) (Box.far (hT.out.2.1) hRP 4 (.slice ua us.length uc)) _ _ _ _ _, ⟨HX.out.1, hush, hul⟩⟩, (((((Drew.pre ((Ext.refl _).alloc _) ((hT.out.1).setCell hwb hgb 4 (.slice ua us.length uc))).setCell (Nat.le_refl _) hg 0 _).setCell (Nat.le_refl _) hg 1 _).setCell (Nat.le_refl _) hg 2 _).setCell (Nat.le_refl _) hg 3 _).setCell (Nat.le_refl _) hg 4 _⟩
  · skip
    have a0 : _ = some (Value.string ⟨#[]⟩) := hS.out.2.1.cell 0
    have a1 : _ = some (Value.int .i64 0) := hS.out.2.1.cell 1
    have a2 : _ = some (Value.int .i64 0) := hS.out.2.1.cell 2
    have a3 : _ = some (Value.int .i64 0) := hS.out.2.1.cell 3
    have a4 : _ = some (Value.slice none 0 0) := hS.out.2.1.cell 4
    have f0 := hS.out.2.1.frozen 0
    have f1 := hS.out.2.1.frozen 1
    have f2 := hS.out.2.1.frozen 2
    have f3 := hS.out.2.1.frozen 3
    have f4 := hS.out.2.1.frozen 4
    have c0 : _ = some (Value.string x0) := hS.out.2.2.1.cell 0
    have c1 : _ = some (Value.int .i64 x1) := hS.out.2.2.1.cell 1
    have c2 : _ = some (Value.int .i64 x2) := hS.out.2.2.1.cell 2
    have c3 : _ = some (Value.int .i64 x3) := hS.out.2.2.1.cell 3
    have c4 : _ = some (Value.slice ra rn rc) := hS.out.2.2.1.cell 4
    go_wp2
    exact bodyPost_ret (v := .agg #[.string x0, .int .i64 x1, .int .i64 x2, .int .i64 x3, .slice ra rn rc]) (by simp [results, Tryz.results116, go_sem, a0, a1, a2, a3, a4]) rfl ⟨⟨x0, x1, x2, x3, xn⟩, ⟨ra, rn, rc⟩, rfl, ⟨own_off5 (hS.out.2.2.2) (hS.out.2.1) _ _ _ _ _, HX.out⟩, (((((Drew.pre ((Ext.refl _).alloc _) (hS.out.1)).setCell (Nat.le_refl _) hg 0 _).setCell (Nat.le_refl _) hg 1 _).setCell (Nat.le_refl _) hg 2 _).setCell (Nat.le_refl _) hg 3 _).setCell (Nat.le_refl _) hg 4 _⟩

def DrewPlL (w : World) (g : Nat) (e : Ending) (w' : World) : Prop := ∃ (a : Option Addr) (c : Nat) (ps : List Pl), e = .returned (.slice a ps.length c) ∧ ps.length ≤ 30 ∧ OwnPl w' w.heap.size a ps.length c ps ∧ Drew w g w'
def letP (k : Nat) : ByteArray := ⟨#[122]⟩ ++ (⟨#[97, 98, 99, 100, 101, 102, 103, 104, 105, 106, 107, 108]⟩ : ByteArray).extract k (k + 1)
theorem letP_size (k : Nat) : (letP k).size ≤ 68 := by
  rw [letP, ByteArray.size_append, ByteArray.size_extract]
  have : (⟨#[122]⟩ : ByteArray).size = 1 := rfl
  omega
theorem draw_growP {w w2 w3 : World} {g B e sz m n c : Nat} {a : Option Addr} {xs : List Value} (ho : w2.ownsRow B e sz (.slice a n c) m xs) (hs : Src w2 g) (hg : g < w.heap.size) (hB : w.heap.size ≤ B)
    (h2 : w.grownBy w2 (some g)) (h3 : w2.grownBy w3 (Value.slice a n c).ownBlock) : Drew w g w3 := by
  refine ⟨hs.grown h3 (fun k e => by have := (ho.lt k e).1; omega), h3.os.trans h2.os, h3.tape.trans h2.tape, h3.output.trans h2.output, Nat.le_trans h2.size h3.size, fun j hj hr => ?_⟩
  rw [h3.block j (Nat.lt_of_lt_of_le hj h2.size) (by intro e; have := (ho.lt j e.symm).1; omega)]
  exact h2.block j hj hr

set_option maxRecDepth 100000 in
set_option maxHeartbeats 8000000 in
theorem l11List_any (g : Nat) (w : World) (hs : Src w g) :
    Calls Tryz.prog 68 #[.pointer (some ⟨g, 0, none⟩)] w (DrewPlL w g) := by
  have hg := hs.lt
  have HS := Lib.hid hs
  clear hs
  go_enter Tryz.func68, Tryz.ntmps68
  go_wp2_with fail
  refine (l01Next_any _ _ _ (HS.out.ext ((Ext.refl _).alloc _)) (by omega)).mono ?_
  rintro e w1 ⟨x, rfl, hx0, hx1, hd⟩
  have HL := Lib.hid (And.intro (Drew.pre ((Ext.refl _).alloc _) hd.drew) ((OwnG.lit layPl 67 w (Nat.le_refl _) [] #[] rfl (by simp)).drawn hd.grown hg))
  clear hd
  go_wp2
  go_loopw [3, 4, 5, 6] (fun v i _ _ wr => ∃ (l : List Pl) (b1 c1 k : Nat), v = .slice (some ⟨b1, 0, none⟩) l.length c1 ∧ i = .int .i64 k ∧ k ≤ 6 ∧ l.length ≤ 10 ∧ OwnPl wr w.heap.size (some ⟨b1, 0, none⟩) l.length c1 l ∧ Drew w g wr) (fun _ i _ _ _ => (intOf i).toNat)
  case atStart =>
    obtain ⟨k, rfl⟩ := Int.eq_ofNat_of_zero_le hx0
    exact ⟨[], _, _, k, rfl, rfl, by omega, by simp, ⟨HL.out.2, by simp⟩, HL.out.1⟩
  case round =>
    obtain ⟨l, b1, c1, k, rfl, rfl, hk6, hl10, ho, hD⟩ := hrel
    have HO := Lib.hid (And.intro ho hD)
    clear ho hD HL
    by_cases hk : 0 < k
    · go_wp2_with fail
      refine (l11Good_any _ _ HO.out.2.1).mono ?_
      rintro e w2 ⟨x, r, rfl, hok, hd⟩
      have hgr := HO.out.2.1.lt
      have H2 := Lib.hid (And.intro (HO.out.1.drawn hd.2 hg) (And.intro (HO.out.2.trans hd) hok))
      have hw2 := hd.size
      have hwr := HO.out.2.size
      clear hd hok
      go_wp2_with fail
      refine (addPlace_any b1 0 l.length c1 l ⟨x, r⟩ _ H2.out.1.1.rd H2.out.1.cap (fun q hq => by
        rcases List.mem_cons.1 hq with rfl | hq
        · exact H2.out.2.2.mono (Nat.zero_le _)
        · exact (H2.out.1.2 q hq).mono (Nat.zero_le _)) (H2.out.1.1.1.lt b1 rfl).2).mono ?_
      rintro e w3 ⟨v, code, rfl, hv, x3⟩
      have H3 := Lib.hid (And.intro (H2.out.1.ext x3) (H2.out.2.1.ext x3))
      rcases hv with hc | ⟨rfl, a3, n3, c3, qs, rfl, hn0, hn10, o3⟩
      · have hcb : (code == 0) = false := by simpa using hc
        clear hc H2
        go_wp2
        go_roundw
        case rel => exact ⟨l, b1, c1, k - 1, rfl, by rw [show ((k : Int) - 1) = ((k - 1 : Nat) : Int) from by omega], by omega, hl10, H3.out.1, H3.out.2⟩
        case measure => simp [intOf]; omega
      · have hl3 := o3.1.rd.len
        obtain ⟨b3, rfl⟩ := own_some o3.1 hn0
        have o4 := Lib.hid (o3.mono (B' := w.heap.size) (Nat.le_trans hwr hw2))
        clear o3 H2
        go_wp2
        go_roundw
        case rel => exact ⟨qs, b3, c3, k - 1, by rw [hl3], by rw [show ((k : Int) - 1) = ((k - 1 : Nat) : Int) from by omega], by omega, by omega, by rw [hl3]; exact o4.out, H3.out.2⟩
        case measure => simp [intOf]; omega
    · go_wp2_with fail
      refine (l01Next_any _ _ _ HO.out.2.1 (by omega)).mono ?_
      rintro e w2 ⟨y, rfl, hy0, hy1, hd⟩
      have H2 := Lib.hid (And.intro (HO.out.1.drawn hd.grown hg) (HO.out.2.trans hd.drew))
      clear hd HO
      by_cases y0 : y = 0
      · subst y0
        go_wp2_with fail
        refine (l11Draw_any _ _ H2.out.2.1).mono ?_
        rintro e w3 ⟨⟨x0, x1, x2, x3, xn⟩, ⟨ra, rn, rc⟩, rfl, hok, hd⟩
        rw [valPlace]
        simp only
        have hw2 := H2.out.2.size
        have H3 := Lib.hid (And.intro (H2.out.1.drawn hd.2 hg) (And.intro (H2.out.2.trans hd) (hok.mono (B' := w.heap.size) hw2)))
        clear hd hok
        go_wp2_with (first | (at_builtin; refine wpList_appG layPl rfl _ _ 24 67 rfl Tryz.underlying24 (.agg #[.string ⟨#[]⟩, .int .i64 0, .int .i64 0, .int .i64 0, .slice none 0 0]) 64 Tryz.info_Place rfl (by decide) w.heap.size _ l.length _ l rfl (H3.out.1.1.alloc _) _ 1 _ [⟨⟨x0, x1, x2, x3, xn⟩, ⟨ra, rn, rc⟩⟩] rfl (RdG.new1 layPl _ _ _ rfl _) (by omega) (by have := H3.out.2.1.size; simp; omega) ?_; intro a4 c4 w4 hown hgrow; have HE := Lib.hid (And.intro (OwnPl.snoc (H3.out.1.ext ((Ext.refl _).alloc _)) (H3.out.2.2.ext ((Ext.refl _).alloc _)) hown hgrow) (draw_grow H3.out.1.1.1 H3.out.2.1.1 hg (Nat.le_refl _) H3.out.2.1.2 hgrow)); clear hown hgrow))
        go_ret
        exact ⟨a4, c4, l ++ [⟨⟨x0, x1, x2, x3, xn⟩, ⟨ra, rn, rc⟩⟩], (by show Ending.returned (.slice a4 (l.length + 1) c4) = _; simp), by simp; omega, by simpa using HE.out.1, HE.out.2⟩
      by_cases y1 : y = 1
      · subst y1
        go_wp2
        go_loopw [3, 7] (fun v i wr => ∃ (l : List Pl) (a1 : Option Addr) (c1 k : Nat), v = .slice a1 l.length c1 ∧ i = .int .i64 k ∧ k ≤ 12 ∧ l.length ≤ 10 + k ∧ OwnPl wr w.heap.size a1 l.length c1 l ∧ Drew w g wr) (fun _ i _ => 12 - (intOf i).toNat)
        case atStart => exact ⟨l, _, c1, 0, rfl, rfl, by decide, by omega, H2.out.1, H2.out.2⟩
        case round =>
          obtain ⟨l, a1, c1, k, rfl, rfl, hk12, hl, ho, hD⟩ := hrel
          have HO := Lib.hid (And.intro ho hD)
          clear ho hD H2
          go_wp2_with fail
          refine (l01Next_any _ _ _ HO.out.2.1 (by omega)).mono ?_
          rintro e w3 ⟨z, rfl, hz0, hz1, hd⟩
          have H3 := Lib.hid (And.intro (HO.out.1.drawn hd.grown hg) (HO.out.2.trans hd.drew))
          clear hd
          by_cases hlz : (l.length : Int) < 10 + z
          · by_cases hkl : (k : Int) < 12
            · have hok : OkP w3 w.heap.size ⟨⟨letP k, 0, 1500, 1600, []⟩, ⟨none, 0, 0⟩⟩ := ⟨OwnG.isNil _ _ _ _, letP_size k, (fun _ h => by cases h), by simp⟩
              have HK := Lib.hid hok
              clear hok
              go_wp2_with (first | (at_builtin; refine wpList_appG layPl rfl _ _ 24 67 rfl Tryz.underlying24 (.agg #[.string ⟨#[]⟩, .int .i64 0, .int .i64 0, .int .i64 0, .slice none 0 0]) 64 Tryz.info_Place rfl (by decide) w.heap.size _ l.length _ l rfl (H3.out.1.1.alloc _) _ 1 _ [⟨⟨letP k, 0, 1500, 1600, []⟩, ⟨none, 0, 0⟩⟩] rfl (RdG.new1 layPl _ _ _ rfl _) (by omega) (by have := H3.out.2.size; simp; omega) ?_; intro a4 c4 w4 hown hgrow; have HE := Lib.hid (And.intro (OwnPl.snoc (H3.out.1.ext ((Ext.refl _).alloc _)) (HK.out.ext ((Ext.refl _).alloc _)) hown hgrow) (draw_grow H3.out.1.1.1 H3.out.2.1 hg (Nat.le_refl _) H3.out.2.2 hgrow)); clear hown hgrow))
              go_roundw
              case rel => exact ⟨l ++ [⟨⟨letP k, 0, 1500, 1600, []⟩, ⟨none, 0, 0⟩⟩], a4, c4, k + 1, by simp, by go_num, by omega, by simp; omega, by simpa using HE.out.1, HE.out.2⟩
              case measure => simp [intOf]; omega
            · go_wp2
              go_ret
              exact ⟨_, _, l, rfl, by omega, H3.out.1, H3.out.2⟩
          · go_wp2
            go_ret
            exact ⟨_, _, l, rfl, by omega, H3.out.1, H3.out.2⟩
      · go_wp2
        go_ret
        exact ⟨_, _, l, rfl, by omega, H2.out.1, H2.out.2⟩

end Go.Proofs.YtjelmidkkpchkaaGreatDoor

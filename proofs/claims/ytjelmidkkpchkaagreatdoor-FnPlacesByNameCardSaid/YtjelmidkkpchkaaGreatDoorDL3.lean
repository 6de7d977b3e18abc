/-
  The reference's draw of a list of names.
-/
import Derived.Test.YtjelmidkkpchkaaGreatDoorDL
namespace Go.Proofs.YtjelmidkkpchkaaGreatDoor
open Go.RowKit

theorem draw_grow0 {w w2 w3 : World} {g B e sz m n c : Nat} {a : Option Addr} {xs : List Value} (ho : w2.ownsRow B e sz (.slice a n c) m xs) (hs : Src w2 g) (hg : g < w.heap.size) (hB : w.heap.size ≤ B)
    (h2 : w.grownBy w2 (some g)) (h3 : w2.grownBy w3 (Value.slice a n c).ownBlock) : Drew w g w3 := by
  refine ⟨hs.grown h3 (fun k e => by have := (ho.lt k e).1; omega), h3.os.trans h2.os, h3.tape.trans h2.tape, h3.output.trans h2.output, Nat.le_trans h2.size h3.size, fun j hj hr => ?_⟩
  rw [h3.block j (Nat.lt_of_lt_of_le hj h2.size) (by intro e; have := (ho.lt j e.symm).1; omega)]
  exact h2.block j hj hr

def DrewLN (w : World) (g : Nat) (e : Ending) (w' : World) : Prop := ∃ (a : Option Addr) (c : Nat) (xs : List NameV), e = .returned (.slice a xs.length c) ∧ xs.length ≤ 13 ∧ shortN xs ∧ OwnG layName 69 w' w.heap.size a xs.length c xs ∧ Drew w g w'

theorem shortN.app {xs : List NameV} (h : shortN xs) {x : NameV} (hx : x.text.size ≤ 217 ∧ x.lang.size ≤ 17) : shortN (xs ++ [x]) := fun y hy => by
  rcases List.mem_append.1 hy with k | k
  · exact h y k
  · rw [List.mem_singleton.1 k]; exact hx

set_option maxRecDepth 100000 in
set_option maxHeartbeats 2000000 in
theorem l09List_any (g : Nat) (w : World) (hs : Src w g) (hAN : ∀ (a : Option Addr) (n c : Nat) (xs : List NameV) (w : World), RdName w a n xs → Calls Tryz.prog 148 #[.slice a n c] w fun e w' => ∃ b, e = .returned (.bool b) ∧ Ext w w') :
    Calls Tryz.prog 151 #[.pointer (some ⟨g, 0, none⟩)] w (DrewLN w g) := by
  have hg := hs.lt
  have HS := Lib.hid hs
  clear hs
  go_enter Tryz.func151, Tryz.ntmps151
  go_wp2_with fail
  refine (l01Next_any _ _ _ (HS.out.ext ((Ext.refl _).alloc _)) (by omega)).mono ?_
  rintro e w1 ⟨x, rfl, hx0, hx1, hd⟩
  have HL := Lib.hid (And.intro (Drew.pre ((Ext.refl _).alloc _) hd.drew) ((OwnG.lit layName 69 w (Nat.le_refl _) [] #[] rfl (by simp)).drawn hd.grown hg))
  clear hd
  go_wp2
  go_loopw [3, 4, 5] (fun v i _ wr => ∃ (l : List NameV) (a1 : Option Addr) (c1 k : Nat), v = .slice a1 l.length c1 ∧ i = .int .i64 k ∧ l.length + k ≤ 6 ∧ shortN l ∧ OwnG layName 69 wr w.heap.size a1 l.length c1 l ∧ Drew w g wr) (fun _ i _ _ => (intOf i).toNat)
  case atStart =>
    obtain ⟨k, rfl⟩ := Int.eq_ofNat_of_zero_le hx0
    exact ⟨[], _, _, k, rfl, rfl, by simp; omega, (fun _ h => by cases h), HL.out.2, HL.out.1⟩
  case round =>
    obtain ⟨l, a1, c1, k, rfl, rfl, hlk, hls, ho, hD⟩ := hrel
    have HB := Lib.hid hls
    clear hls
    by_cases hk : 0 < k
    · have hgr := hD.1.lt
      have HD := Lib.hid (And.intro ho hD)
      clear ho hD
      go_wp2_with (first | (at_builtin; refine wpList_appG layName rfl _ _ 65 69 rfl Tryz.underlying65 (.agg #[.string ⟨#[]⟩, .string ⟨#[]⟩, .int .i64 0, .int .i64 0, .int .i64 0]) 56 Tryz.info_Name rfl (by decide) wr.heap.size _ 0 _ [] rfl (OwnG.lit layName 69 wr (Nat.le_refl _) [] #[] rfl (by simp)) _ _ _ l rfl (HD.out.1.ext ((Ext.refl _).alloc _)).rd (by omega) (by simp) ?_; intro a2 c2 w2 hown hgrow; simp only [Nat.zero_add, List.nil_append] at hown ⊢; have H2 := Lib.hid (And.intro hown (draw_grow0 (w := wr) (OwnG.lit layName 69 wr (Nat.le_refl _) [] #[] rfl (by simp)).1 (HD.out.2.1.ext ((Ext.refl _).alloc _)) hgr (Nat.le_refl _) (grown_ext ((Ext.refl _).alloc _) _) hgrow)); clear hown hgrow))
      refine (l09Draw_any _ _ H2.out.2.1).mono ?_
      rintro e w3 ⟨x, rfl, hx, hd⟩
      have H3 := Lib.hid (And.intro (H2.out.1.drawn hd.2 hgr) (H2.out.2.trans hd))
      have HX := Lib.hid hx
      obtain ⟨p0, p1, p2, p3, p4⟩ := x
      rw [valName]
      simp only
      clear hd hx H2
      go_wp2_with (first | (at_builtin; refine wpList_appG layName rfl _ _ 65 69 rfl Tryz.underlying65 (.agg #[.string ⟨#[]⟩, .string ⟨#[]⟩, .int .i64 0, .int .i64 0, .int .i64 0]) 56 Tryz.info_Name rfl (by decide) wr.heap.size _ l.length _ l rfl (H3.out.1.alloc _) _ 1 _ [⟨p0, p1, p2, p3, p4⟩] rfl (RdG.new1 layName _ _ _ rfl _) (by omega) (by have := H3.out.2.size; simp; omega) ?_; intro a4 c4 w4 hown hgrow; have HO := Lib.hid (And.intro hown (draw_grow H3.out.1.1 H3.out.2.1 hgr (Nat.le_refl _) H3.out.2.2 hgrow)); clear hown hgrow))
      have hok : ∀ z ∈ l ++ [(⟨p0, p1, p2, p3, p4⟩ : NameV)], okName z := fun z hz => by
        have := (HB.out.app HX.out) z hz
        exact ⟨by omega, by omega⟩
      have h4 : Drew wr g w4 := HO.out.2
      have ho4 : OwnG layName 69 w4 wr.heap.size a4 (l ++ [(⟨p0, p1, p2, p3, p4⟩ : NameV)]).length c4 (l ++ [⟨p0, p1, p2, p3, p4⟩]) := by simpa using HO.out.1
      have H4 := Lib.hid (And.intro ho4 h4)
      have hrd : RdName w4 a4 (l ++ [(⟨p0, p1, p2, p3, p4⟩ : NameV)]).length (l ++ [⟨p0, p1, p2, p3, p4⟩]) := ⟨ho4.rd, hok⟩
      have hlen : (l ++ [(⟨p0, p1, p2, p3, p4⟩ : NameV)]).length = l.length + 1 := by simp
      rw [hlen] at hrd
      clear ho4 h4 hok HO
      refine (hAN _ _ _ _ _ hrd).mono ?_
      rintro e w5 ⟨b, rfl, e5⟩
      have hw := Nat.le_trans HD.out.2.size (Nat.le_refl _)
      cases b
      · go_wp2
        go_roundw
        case rel => exact ⟨l, a1, c1, k - 1, rfl, by rw [show ((k : Int) - 1) = ((k - 1 : Nat) : Int) from by omega], by omega, HB.out, (HD.out.1.drawn H4.out.2.2 hg).ext e5, (HD.out.2.trans H4.out.2).ext e5⟩
        case measure => simp [intOf]; omega
      · go_wp2
        go_roundw
        case rel => exact ⟨l ++ [⟨p0, p1, p2, p3, p4⟩], a4, c4, k - 1, by rw [hlen], by rw [show ((k : Int) - 1) = ((k - 1 : Nat) : Int) from by omega], by omega, HB.out.app HX.out, (H4.out.1.mono hw).ext e5, (HD.out.2.trans H4.out.2).ext e5⟩
        case measure => simp [intOf]; omega
    · have HD := Lib.hid (And.intro ho hD)
      clear ho hD
      go_wp2_with fail
      refine (l01Next_any _ _ _ HD.out.2.1 (by decide)).mono ?_
      rintro e w2 ⟨y, rfl, hy0, hy1, hd⟩
      have H2 := Lib.hid (And.intro (HD.out.1.drawn hd.grown hg) (HD.out.2.trans hd.drew))
      clear hd HD
      by_cases y0 : y = 0
      · subst y0
        go_wp2_with fail
        refine (l09Draw_any _ _ H2.out.2.1).mono ?_
        rintro e w3 ⟨x, rfl, hx, hd⟩
        have H3 := Lib.hid (And.intro (H2.out.1.drawn hd.2 hg) (H2.out.2.trans hd))
        have HX := Lib.hid hx
        obtain ⟨p0, p1, p2, p3, p4⟩ := x
        rw [valName]
        simp only
        clear hd hx H2
        go_wp2_with (first | (at_builtin; refine wpList_appG layName rfl _ _ 65 69 rfl Tryz.underlying65 (.agg #[.string ⟨#[]⟩, .string ⟨#[]⟩, .int .i64 0, .int .i64 0, .int .i64 0]) 56 Tryz.info_Name rfl (by decide) w.heap.size _ l.length _ l rfl (H3.out.1.alloc _) _ 1 _ [⟨p0, p1, p2, p3, p4⟩] rfl (RdG.new1 layName _ _ _ rfl _) (by omega) (by have := H3.out.2.size; simp; omega) ?_; intro a4 c4 w4 hown hgrow; have HO := Lib.hid (And.intro hown (draw_grow H3.out.1.1 H3.out.2.1 hg (Nat.le_refl _) H3.out.2.2 hgrow)); clear hown hgrow))
        go_ret
        exact ⟨a4, c4, l ++ [⟨p0, p1, p2, p3, p4⟩], by simp, by simp; omega, HB.out.app HX.out, by simpa using HO.out.1, HO.out.2⟩
      by_cases y1 : y = 1
      · subst y1
        go_wp2
        go_loopw [3] (fun v wr => ∃ (l : List NameV) (a1 : Option Addr) (c1 : Nat), v = .slice a1 l.length c1 ∧ l.length ≤ 13 ∧ shortN l ∧ OwnG layName 69 wr w.heap.size a1 l.length c1 l ∧ Drew w g wr) (fun v _ => 13 - lenV v)
        case atStart => exact ⟨l, a1, c1, rfl, by omega, HB.out, H2.out.1, H2.out.2⟩
        case round =>
          obtain ⟨l2, a2, c2, rfl, hl13, hls2, ho2, hD2⟩ := hrel
          have HB2 := Lib.hid hls2
          have HD2 := Lib.hid (And.intro ho2 hD2)
          clear hls2 ho2 hD2
          go_wp2_with fail
          refine (l01Next_any _ _ _ HD2.out.2.1 (by decide)).mono ?_
          rintro e w3 ⟨z, rfl, hz0, hz1, hd⟩
          have H3 := Lib.hid (And.intro (HD2.out.1.drawn hd.grown hg) (HD2.out.2.trans hd.drew))
          clear hd HD2
          by_cases hz : (l2.length : Int) < 12 + z
          · go_wp2_with (first | (at_builtin; refine wpList_appG layName rfl _ _ 65 69 rfl Tryz.underlying65 (.agg #[.string ⟨#[]⟩, .string ⟨#[]⟩, .int .i64 0, .int .i64 0, .int .i64 0]) 56 Tryz.info_Name rfl (by decide) w.heap.size _ l2.length _ l2 rfl (H3.out.1.alloc _) _ 1 _ [⟨⟨#[111, 108, 100, 32, 97, 115, 104]⟩, ⟨#[108, 97, 116]⟩, 2, 1, 9⟩] rfl (RdG.new1 layName _ _ _ rfl _) (by omega) (by have := H3.out.2.size; simp; omega) ?_; intro a4 c4 w4 hown hgrow; have HO := Lib.hid (And.intro hown (draw_grow H3.out.1.1 H3.out.2.1 hg (Nat.le_refl _) H3.out.2.2 hgrow)); clear hown hgrow))
            go_roundw
            case rel => exact ⟨l2 ++ [⟨⟨#[111, 108, 100, 32, 97, 115, 104]⟩, ⟨#[108, 97, 116]⟩, 2, 1, 9⟩], a4, c4, by simp, by simp; omega, HB2.out.app ⟨by decide, by decide⟩, by simpa using HO.out.1, HO.out.2⟩
            case measure => simp [lenV]; omega
          · go_wp2
            go_ret
            exact ⟨a2, c2, l2, rfl, hl13, HB2.out, H3.out.1, H3.out.2⟩
      · go_wp2
        go_ret
        exact ⟨a1, c1, l, rfl, by omega, HB.out, H2.out.1, H2.out.2⟩

end Go.Proofs.YtjelmidkkpchkaaGreatDoor

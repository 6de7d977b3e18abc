/-
  spec.ReadName.
-/
import Derived.Test.YtajgjccnhippcaaGreatDoorRD4
namespace Go.Proofs.YtajgjccnhippcaaGreatDoor
open Go.RowKit

theorem rd_same {s a b c d : ByteArray} {v : Nat} {y : SpanV} (h : ∀ x, isText s x → a = x.text ∧ b = x.lang ∧ Lib.itoa x.status = c.data.toList ∧ spanT x.from_ x.to_ = d.data.toList) (hv : v ≤ 10000000000000) (h1 : isNum c v) (h2 : isSp d y) : ∀ x, isText s x → x = ⟨a, b, v, y.from_, y.to_⟩ := fun x hx => by
  obtain ⟨k1, k2, k3, k4⟩ := h x hx
  obtain ⟨_, _, b3, b4⟩ := nameB_all hx.1
  have e3 : Lib.itoa x.status = Lib.itoa (v : Int) := by rw [k3, itoa_pos (by omega)]; exact h1.symm
  have e4 := itoa_inj (by omega) (by omega) (by omega) (by omega) e3
  obtain ⟨s1, s2⟩ := spanB_wide b4
  obtain ⟨t1, t2⟩ := spanB_wide h2.1
  obtain ⟨d4, d5⟩ := span_inj s1 s2 t1 t2 (k4.trans h2.2.symm)
  cases x
  simp only at k1 k2 e4 d4 d5
  rw [k1, k2, e4, d4, d5]

set_option maxRecDepth 100000 in
set_option maxHeartbeats 4000000 in
theorem specReadName_any (s : ByteArray) (w : World) (hs : s.size ≤ 1073741824) :
    Calls Tryz.prog 47 #[.string s] w (RetNC w (rdV s) (rdC s)) := by
  have xb := (Ext.refl w).alloc (.cells #[.string ⟨#[]⟩, .string ⟨#[]⟩, .int .i64 0, .int .i64 0, .int .i64 0] 62)
  have HC := Lib.hid (l01Split_any s 47 (w.alloc (.cells #[.string ⟨#[]⟩, .string ⟨#[]⟩, .int .i64 0, .int .i64 0, .int .i64 0] 62)) hs)
  have hS : ∀ x, isText s x → (splitC 47 s).map (·.data.toList) = [x.text.data.toList, x.lang.data.toList, Lib.itoa x.status, spanT x.from_ x.to_] := fun x hx => by rw [← splitC_list]; exact isText_split hx
  have hsm : ∀ p ∈ splitC 47 s, p.size ≤ s.size := splitC_small
  generalize hL : splitC 47 s = L at HC hS hsm
  clear hL
  by_cases h4 : L.length = 4
  · obtain ⟨a, b, c, d, rfl⟩ := four h4
    have hsa := Nat.le_trans (hsm a (by simp)) hs
    have hsb := Nat.le_trans (hsm b (by simp)) hs
    have hsc := Nat.le_trans (hsm c (by simp)) hs
    have hsd := Nat.le_trans (hsm d (by simp)) hs
    have HZ := Lib.hid (And.intro (And.intro hsa hsb) (And.intro hsc hsd))
    have HS := Lib.hid (show ∀ x, isText s x → a = x.text ∧ b = x.lang ∧ Lib.itoa x.status = c.data.toList ∧ spanT x.from_ x.to_ = d.data.toList from fun x hx => by
      have := hS x hx
      simp only [List.map_cons, List.map_nil, List.cons.injEq, and_true] at this
      exact ⟨eqS.1 this.1, eqS.1 this.2.1, this.2.2.1.symm, this.2.2.2.symm⟩)
    clear hsa hsb hsc hsd h4 hsm hS
    go_enter Tryz.func47, Tryz.ntmps47
    go_wp2_with fail
    refine HC.out.mono ?_
    rintro e w1 ⟨v1, rfl, a1, n1, c1, rfl, o1, x1⟩
    obtain rfl := o1.rd.len
    obtain ⟨bb, o, rfl, hb, d0, d1, d2, d3⟩ := o1.rd.four
    clear o1
    go_wp2_with fail
    refine (l01Value_any _ _ HZ.out.2.1).mono ?_
    rintro e w2 ⟨m1, ok1, rfl, bd1, hok1, hno1, e2⟩
    have HK1 := Lib.hid (And.intro hok1 (And.intro hno1 bd1))
    clear hok1 hno1 bd1
    have z3 := (Below.cell e2 (p := ⟨bb, o + 3, none⟩) hb).trans d3
    go_wp2_with fail
    refine (specReadSpan_any _ _ HZ.out.2.2).mono ?_
    rintro e w3 ⟨y, cd, rfl, hy, e3⟩
    have HY := Lib.hid hy
    rw [valSpan]
    clear hy z3 d2 d3
    have xf := (e2.trans e3).alloc (.cells #[.int .i64 y.from_, .int .i64 y.to_] 60)
    have xh := xf.alloc (.cells #[.string ⟨#[]⟩, .string ⟨#[]⟩, .int .i64 0, .int .i64 0, .int .i64 0] 62)
    have z0 := (Below.cell xf (p := ⟨bb, o, none⟩) hb).trans d0
    have z1 := (Below.cell xf (p := ⟨bb, o + 1, none⟩) hb).trans d1
    have k0 := (Below.cell xh (p := ⟨bb, o, none⟩) hb).trans d0
    have k1 := (Below.cell xh (p := ⟨bb, o + 1, none⟩) hb).trans d1
    have xg := (((x1.trans e2).trans e3).alloc (.cells #[.int .i64 y.from_, .int .i64 y.to_] 60)).alloc (.cells #[.string a, .string b, .int .i64 m1, .int .i64 y.from_, .int .i64 y.to_] 62)
    go_wp2
    go_region
    clear d0 d1 z0 z1 k0 k1 xf xh
    cases hk1 : ok1
    · have HW := Lib.hid (show ∀ x, ¬ isText s x from fun x hx => by
        obtain ⟨_, _, b3, _⟩ := nameB_all hx.1
        refine HK1.out.2.1 hk1 x.status.toNat (by omega) ?_
        have := (HS.out x hx).2.2.1
        rw [itoa_pos (by omega)] at this
        exact this)
      clear HK1 HY hk1
      have b0 : _ = some (Value.string ⟨#[]⟩) := box_keptG (xg) 0
      have f0 := box_frozen (xg) 0
      have b1 : _ = some (Value.string ⟨#[]⟩) := box_keptG (xg) 1
      have f1 := box_frozen (xg) 1
      have b2 : _ = some (Value.int .i64 0) := box_keptG (xg) 2
      have f2 := box_frozen (xg) 2
      have b3 : _ = some (Value.int .i64 0) := box_keptG (xg) 3
      have f3 := box_frozen (xg) 3
      have b4 : _ = some (Value.int .i64 0) := box_keptG (xg) 4
      have f4 := box_frozen (xg) 4
      go_wp2
      exact bodyPost_ret (v := .tuple #[.agg #[.string ⟨#[]⟩, .string ⟨#[]⟩, .int .i64 0, .int .i64 0, .int .i64 0], .int .i64 6]) (by simp [results, Tryz.results47, go_sem, b0, b1, b2, b3, b4]) rfl ⟨by rw [(rd_no HW.out).1, (rd_no HW.out).2]; rfl, ((((((xb.trans (xg)).setCell (p := ⟨w.heap.size, 0, none⟩) (Nat.le_refl _) _).setCell (p := ⟨w.heap.size, 1, none⟩) (Nat.le_refl _) _).setCell (p := ⟨w.heap.size, 2, none⟩) (Nat.le_refl _) _).setCell (p := ⟨w.heap.size, 3, none⟩) (Nat.le_refl _) _).setCell (p := ⟨w.heap.size, 4, none⟩) (Nat.le_refl _) _).drew⟩
    · have hcd := HY.out
      rcases hcd with ⟨rfl, hsp⟩ | ⟨rfl, hsp⟩
      · have HE := Lib.hid (rd_same HS.out HK1.out.2.2 (HK1.out.1 hk1) hsp)
        have HO := Lib.hid (show okName ⟨a, b, m1, y.from_, y.to_⟩ from HZ.out.1)
        clear HK1 HY hk1 hsp
        go_wp2_with fail
        refine (specIsName_any ⟨a, b, m1, y.from_, y.to_⟩ _ HO.out).mono ?_
        rintro e w4 ⟨rfl, e4⟩
        have xh := xg.drew.trans e4
        have y0 : _ = some (Value.string a) := box_keptG ((Ext.refl _).drew.trans e4) 0
        have y1 : _ = some (Value.string b) := box_keptG ((Ext.refl _).drew.trans e4) 1
        have y2 : _ = some (Value.int .i64 m1) := box_keptG ((Ext.refl _).drew.trans e4) 2
        have y3 : _ = some (Value.int .i64 y.from_) := box_keptG ((Ext.refl _).drew.trans e4) 3
        have y4 : _ = some (Value.int .i64 y.to_) := box_keptG ((Ext.refl _).drew.trans e4) 4
        rw [World.size_alloc] at y0 y1 y2 y3 y4
        cases hp : nameB ⟨a, b, m1, y.from_, y.to_⟩
        · have HW := Lib.hid (show ∀ x, ¬ isText s x from fun x hx => by
            have := HE.out x hx
            subst this
            exact absurd hx.1 (by rw [hp]; decide))
          clear hp
          have b0 : _ = some (Value.string ⟨#[]⟩) := box_keptG (xh) 0
          have f0 := box_frozen (xh) 0
          have b1 : _ = some (Value.string ⟨#[]⟩) := box_keptG (xh) 1
          have f1 := box_frozen (xh) 1
          have b2 : _ = some (Value.int .i64 0) := box_keptG (xh) 2
          have f2 := box_frozen (xh) 2
          have b3 : _ = some (Value.int .i64 0) := box_keptG (xh) 3
          have f3 := box_frozen (xh) 3
          have b4 : _ = some (Value.int .i64 0) := box_keptG (xh) 4
          have f4 := box_frozen (xh) 4
          go_wp2
          exact bodyPost_ret (v := .tuple #[.agg #[.string ⟨#[]⟩, .string ⟨#[]⟩, .int .i64 0, .int .i64 0, .int .i64 0], .int .i64 6]) (by simp [results, Tryz.results47, go_sem, b0, b1, b2, b3, b4]) rfl ⟨by rw [(rd_no HW.out).1, (rd_no HW.out).2]; rfl, (((((xb.trans (xh)).setCell (p := ⟨w.heap.size, 0, none⟩) (Nat.le_refl _) _).setCell (p := ⟨w.heap.size, 1, none⟩) (Nat.le_refl _) _).setCell (p := ⟨w.heap.size, 2, none⟩) (Nat.le_refl _) _).setCell (p := ⟨w.heap.size, 3, none⟩) (Nat.le_refl _) _).setCell (p := ⟨w.heap.size, 4, none⟩) (Nat.le_refl _) _⟩
        · have HP := Lib.hid hp
          clear hp
          go_wp2_with fail
          refine (l09Text_any ⟨a, b, m1, y.from_, y.to_⟩ _ HP.out HO.out).mono ?_
          rintro e w5 ⟨rfl, e5⟩
          have xi := xh.trans e5
          have z0 : _ = some (Value.string a) := box_keptG (((Ext.refl _).drew.trans e4).trans e5) 0
          have z1 : _ = some (Value.string b) := box_keptG (((Ext.refl _).drew.trans e4).trans e5) 1
          have z2 : _ = some (Value.int .i64 m1) := box_keptG (((Ext.refl _).drew.trans e4).trans e5) 2
          have z3 : _ = some (Value.int .i64 y.from_) := box_keptG (((Ext.refl _).drew.trans e4).trans e5) 3
          have z4 : _ = some (Value.int .i64 y.to_) := box_keptG (((Ext.refl _).drew.trans e4).trans e5) 4
          rw [World.size_alloc] at z0 z1 z2 z3 z4
          have ht : ((nameTB ⟨a, b, m1, y.from_, y.to_⟩).toList == s.toList) = decide (nameT ⟨a, b, m1, y.from_, y.to_⟩ = s.data.toList) := by
            rw [ByteArray.toList_eq, ByteArray.toList_eq]
            show (nameT _ == s.data.toList) = _
            rw [Bool.eq_iff_iff]; simp
          clear y0 y1 y2 y3 y4
          cases hd : ((nameTB ⟨a, b, m1, y.from_, y.to_⟩).toList == s.toList)
          · have HW := Lib.hid (show ∀ x, ¬ isText s x from fun x hx => by
              have := HE.out x hx
              subst this
              rw [ht] at hd
              exact of_decide_eq_false hd hx.2)
            clear ht
            have b0 : _ = some (Value.string ⟨#[]⟩) := box_keptG (xi) 0
            have f0 := box_frozen (xi) 0
            have b1 : _ = some (Value.string ⟨#[]⟩) := box_keptG (xi) 1
            have f1 := box_frozen (xi) 1
            have b2 : _ = some (Value.int .i64 0) := box_keptG (xi) 2
            have f2 := box_frozen (xi) 2
            have b3 : _ = some (Value.int .i64 0) := box_keptG (xi) 3
            have f3 := box_frozen (xi) 3
            have b4 : _ = some (Value.int .i64 0) := box_keptG (xi) 4
            have f4 := box_frozen (xi) 4
            go_wp2
            exact bodyPost_ret (v := .tuple #[.agg #[.string ⟨#[]⟩, .string ⟨#[]⟩, .int .i64 0, .int .i64 0, .int .i64 0], .int .i64 6]) (by simp [results, Tryz.results47, go_sem, b0, b1, b2, b3, b4]) rfl ⟨by rw [(rd_no HW.out).1, (rd_no HW.out).2]; rfl, (((((xb.trans (xi)).setCell (p := ⟨w.heap.size, 0, none⟩) (Nat.le_refl _) _).setCell (p := ⟨w.heap.size, 1, none⟩) (Nat.le_refl _) _).setCell (p := ⟨w.heap.size, 2, none⟩) (Nat.le_refl _) _).setCell (p := ⟨w.heap.size, 3, none⟩) (Nat.le_refl _) _).setCell (p := ⟨w.heap.size, 4, none⟩) (Nat.le_refl _) _⟩
          · have HW := Lib.hid (show isText s ⟨a, b, m1, y.from_, y.to_⟩ from ⟨HP.out, by rw [ht] at hd; exact of_decide_eq_true hd⟩)
            clear ht
            have b0 : _ = some (Value.string ⟨#[]⟩) := box_keptG (xi) 0
            have f0 := box_frozen (xi) 0
            have b1 : _ = some (Value.string ⟨#[]⟩) := box_keptG (xi) 1
            have f1 := box_frozen (xi) 1
            have b2 : _ = some (Value.int .i64 0) := box_keptG (xi) 2
            have f2 := box_frozen (xi) 2
            have b3 : _ = some (Value.int .i64 0) := box_keptG (xi) 3
            have f3 := box_frozen (xi) 3
            have b4 : _ = some (Value.int .i64 0) := box_keptG (xi) 4
            have f4 := box_frozen (xi) 4
            go_wp2
            exact bodyPost_ret (v := .tuple #[.agg #[.string a, .string b, .int .i64 m1, .int .i64 y.from_, .int .i64 y.to_], .int .i64 0]) (by simp [results, Tryz.results47, go_sem, b0, b1, b2, b3, b4]) rfl ⟨by rw [(rd_yes HW.out).1, (rd_yes HW.out).2]; rfl, (((((xb.trans (xi)).setCell (p := ⟨w.heap.size, 0, none⟩) (Nat.le_refl _) _).setCell (p := ⟨w.heap.size, 1, none⟩) (Nat.le_refl _) _).setCell (p := ⟨w.heap.size, 2, none⟩) (Nat.le_refl _) _).setCell (p := ⟨w.heap.size, 3, none⟩) (Nat.le_refl _) _).setCell (p := ⟨w.heap.size, 4, none⟩) (Nat.le_refl _) _⟩
      · have HW := Lib.hid (show ∀ x, ¬ isText s x from fun x hx => by
          obtain ⟨_, _, _, b4⟩ := nameB_all hx.1
          exact hsp ⟨x.from_, x.to_⟩ ⟨b4, (HS.out x hx).2.2.2⟩)
        clear HK1 HY hk1 hsp
        have b0 : _ = some (Value.string ⟨#[]⟩) := box_keptG (xg) 0
        have f0 := box_frozen (xg) 0
        have b1 : _ = some (Value.string ⟨#[]⟩) := box_keptG (xg) 1
        have f1 := box_frozen (xg) 1
        have b2 : _ = some (Value.int .i64 0) := box_keptG (xg) 2
        have f2 := box_frozen (xg) 2
        have b3 : _ = some (Value.int .i64 0) := box_keptG (xg) 3
        have f3 := box_frozen (xg) 3
        have b4 : _ = some (Value.int .i64 0) := box_keptG (xg) 4
        have f4 := box_frozen (xg) 4
        go_wp2
        exact bodyPost_ret (v := .tuple #[.agg #[.string ⟨#[]⟩, .string ⟨#[]⟩, .int .i64 0, .int .i64 0, .int .i64 0], .int .i64 6]) (by simp [results, Tryz.results47, go_sem, b0, b1, b2, b3, b4]) rfl ⟨by rw [(rd_no HW.out).1, (rd_no HW.out).2]; rfl, ((((((xb.trans (xg)).setCell (p := ⟨w.heap.size, 0, none⟩) (Nat.le_refl _) _).setCell (p := ⟨w.heap.size, 1, none⟩) (Nat.le_refl _) _).setCell (p := ⟨w.heap.size, 2, none⟩) (Nat.le_refl _) _).setCell (p := ⟨w.heap.size, 3, none⟩) (Nat.le_refl _) _).setCell (p := ⟨w.heap.size, 4, none⟩) (Nat.le_refl _) _).drew⟩
  · have HR := Lib.hid (show ∀ x, ¬ isText s x from fun x hx => h4 (by have := congrArg List.length (hS x hx); simpa using this))
    have hne : ¬ (L.length : Int) = 4 := by omega
    clear h4 hS
    go_enter Tryz.func47, Tryz.ntmps47
    go_wp2_with fail
    refine HC.out.mono ?_
    rintro e w1 ⟨v1, rfl, a1, n1, c1, rfl, o1, x1⟩
    obtain rfl := o1.rd.len
    have b0 : _ = some (Value.string ⟨#[]⟩) := box_keptG (x1) 0
    have f0 := box_frozen (x1) 0
    have b1 : _ = some (Value.string ⟨#[]⟩) := box_keptG (x1) 1
    have f1 := box_frozen (x1) 1
    have b2 : _ = some (Value.int .i64 0) := box_keptG (x1) 2
    have f2 := box_frozen (x1) 2
    have b3 : _ = some (Value.int .i64 0) := box_keptG (x1) 3
    have f3 := box_frozen (x1) 3
    have b4 : _ = some (Value.int .i64 0) := box_keptG (x1) 4
    have f4 := box_frozen (x1) 4
    go_wp2
    exact bodyPost_ret (v := .tuple #[.agg #[.string ⟨#[]⟩, .string ⟨#[]⟩, .int .i64 0, .int .i64 0, .int .i64 0], .int .i64 6]) (by simp [results, Tryz.results47, go_sem, b0, b1, b2, b3, b4]) rfl ⟨by rw [(rd_no HR.out).1, (rd_no HR.out).2]; rfl, (((((xb.trans (x1)).setCell (p := ⟨w.heap.size, 0, none⟩) (Nat.le_refl _) _).setCell (p := ⟨w.heap.size, 1, none⟩) (Nat.le_refl _) _).setCell (p := ⟨w.heap.size, 2, none⟩) (Nat.le_refl _) _).setCell (p := ⟨w.heap.size, 3, none⟩) (Nat.le_refl _) _).setCell (p := ⟨w.heap.size, 4, none⟩) (Nat.le_refl _) _⟩

end Go.Proofs.YtajgjccnhippcaaGreatDoor

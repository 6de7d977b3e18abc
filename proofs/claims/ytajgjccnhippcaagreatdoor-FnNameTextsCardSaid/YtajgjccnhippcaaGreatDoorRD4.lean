/-
  spec.ReadSpan.
-/
import Derived.Test.YtajgjccnhippcaaGreatDoorRD3
namespace Go.Proofs.YtajgjccnhippcaaGreatDoor
open Go.RowKit

theorem three {α : Type} {l : List α} (h : l.length = 3) : ∃ a b c, l = [a, b, c] := by
  match l, h with
  | [a, b, c], _ => exact ⟨a, b, c, rfl⟩
theorem RdS.three {w : World} {a : Option Addr} {p q r : ByteArray} (h : RdS w a 3 [p, q, r]) : ∃ b o, a = some ⟨b, o, none⟩ ∧ b < w.heap.size ∧ w.cell? ⟨b, o, none⟩ = some (.string p) ∧ w.cell? ⟨b, o + 1, none⟩ = some (.string q) ∧ w.cell? ⟨b, o + 2, none⟩ = some (.string r) := by
  obtain ⟨b, o, ha, hb, hc⟩ := h.at (by omega)
  exact ⟨b, o, ha, hb, hc 0 (by omega), hc 1 (by omega), hc 2 (by omega)⟩
theorem RdS.four {w : World} {a : Option Addr} {p q r s : ByteArray} (h : RdS w a 4 [p, q, r, s]) : ∃ b o, a = some ⟨b, o, none⟩ ∧ b < w.heap.size ∧ w.cell? ⟨b, o, none⟩ = some (.string p) ∧ w.cell? ⟨b, o + 1, none⟩ = some (.string q) ∧ w.cell? ⟨b, o + 2, none⟩ = some (.string r) ∧ w.cell? ⟨b, o + 3, none⟩ = some (.string s) := by
  obtain ⟨b, o, ha, hb, hc⟩ := h.at (by omega)
  exact ⟨b, o, ha, hb, hc 0 (by omega), hc 1 (by omega), hc 2 (by omega), hc 3 (by omega)⟩

def isSp (s : ByteArray) (x : SpanV) : Prop := spanB x = true ∧ spanT x.from_ x.to_ = s.data.toList
def RetSpan (s : ByteArray) (w : World) (e : Ending) (w' : World) : Prop :=
  ∃ (x : SpanV) (c : Int), e = .returned (.tuple #[valSpan x, .int .i64 c]) ∧ ((c = 0 ∧ isSp s x) ∨ (c = 6 ∧ ∀ y, ¬ isSp s y)) ∧ Ext w w'
theorem sp_split {s : ByteArray} {y : SpanV} (h : isSp s y) : (splitC 46 s).map (·.data.toList) = [Lib.itoa y.from_, [], Lib.itoa y.to_] := by
  rw [← splitC_list, ← h.2, split_span]

theorem sp_bd {s : ByteArray} {y : SpanV} (h : isSp s y) : (-9999999999999 ≤ y.from_ ∧ y.from_ ≤ 9999999999999) ∧ (-9999999999999 ≤ y.to_ ∧ y.to_ ≤ 9999999999999) := by
  obtain ⟨h1, h2, _⟩ := spanB_iff.1 h.1
  omega
theorem sp_eq {s p r : ByteArray} {a b : Int} (h : ∀ y, isSp s y → Lib.itoa y.from_ = p.data.toList ∧ Lib.itoa y.to_ = r.data.toList) (ha : -10000000000000 ≤ a ∧ a ≤ 10000000000000) (hb : -10000000000000 ≤ b ∧ b ≤ 10000000000000) (h1 : Lib.itoa a = p.data.toList) (h2 : Lib.itoa b = r.data.toList) : ∀ y, isSp s y → y = ⟨a, b⟩ := fun y hy => by
  obtain ⟨k1, k2⟩ := h y hy
  obtain ⟨⟨n1, n2⟩, n3, n4⟩ := sp_bd hy
  have e1 := itoa_inj (by omega) (by omega) (by omega) (by omega) (k1.trans h1.symm)
  have e2 := itoa_inj (by omega) (by omega) (by omega) (by omega) (k2.trans h2.symm)
  cases y
  simp only at e1 e2
  rw [e1, e2]

set_option maxRecDepth 100000 in
set_option maxHeartbeats 2000000 in
theorem specReadSpan_any (s : ByteArray) (w : World) (hs : s.size ≤ 1073741824) :
    Calls Tryz.prog 96 #[.string s] w (RetSpan s w) := by
  have xb := (Ext.refl w).alloc (.cells #[.int .i64 0, .int .i64 0] 60)
  have HC := Lib.hid (l01Split_any s 46 (w.alloc (.cells #[.int .i64 0, .int .i64 0] 60)) hs)
  have hS := fun (y : SpanV) => sp_split (s := s) (y := y)
  have hsm : ∀ p ∈ splitC 46 s, p.size ≤ s.size := splitC_small
  generalize hL : splitC 46 s = L at HC hS hsm
  clear hL
  by_cases h3 : L.length = 3
  · obtain ⟨p, q, r, rfl⟩ := three h3
    have hsp := Nat.le_trans (hsm p (by simp)) hs
    have hsr := Nat.le_trans (hsm r (by simp)) hs
    have HZ := Lib.hid (And.intro hsp hsr)
    have HS := Lib.hid (show ∀ y, isSp s y → Lib.itoa y.from_ = p.data.toList ∧ Lib.itoa y.to_ = r.data.toList from fun y hy => by
      have := hS y hy
      simp only [List.map_cons, List.map_nil, List.cons.injEq, and_true] at this
      exact ⟨this.1.symm, this.2.2.symm⟩)
    have HQ := Lib.hid (show ∀ y, isSp s y → q.data.toList = [] from fun y hy => by
      have := hS y hy
      simp only [List.map_cons, List.map_nil, List.cons.injEq, and_true] at this
      exact this.2.1)
    clear hsp hsr h3 hsm hS
    go_enter Tryz.func96, Tryz.ntmps96
    go_wp2_with fail
    refine HC.out.mono ?_
    rintro e w1 ⟨v1, rfl, a1, n1, c1, rfl, o1, x1⟩
    obtain rfl := o1.rd.len
    obtain ⟨b, o, rfl, hb, d0, d1, d2⟩ := o1.rd.three
    clear o1
    cases hq : q.toList.isEmpty
    · have HW := Lib.hid (show ∀ y, ¬ isSp s y from fun y hy => by
        rw [ByteArray.toList_eq, HQ.out y hy] at hq
        exact absurd hq (by decide))
      have b0 : _ = some (Value.int .i64 0) := box_keptG x1 0
      have b1 : _ = some (Value.int .i64 0) := box_keptG x1 1
      have f0 := box_frozen x1 0
      have f1 := box_frozen x1 1
      go_wp2
      exact bodyPost_ret (v := .tuple #[.agg #[.int .i64 0, .int .i64 0], .int .i64 6]) (by simp [results, Tryz.results96, go_sem, b0, b1]) rfl ⟨⟨0, 0⟩, 6, rfl, .inr ⟨rfl, HW.out⟩, ((xb.trans x1).setCell (p := ⟨w.heap.size, 0, none⟩) (Nat.le_refl _) _).setCell (p := ⟨w.heap.size, 1, none⟩) (Nat.le_refl _) _⟩
    · go_wp2_with fail
      refine (l01Signed_any _ _ HZ.out.1).mono ?_
      rintro e w2 ⟨m1, ok1, rfl, bd1, hok1, hno1, e2⟩
      have HK1 := Lib.hid (And.intro hok1 (And.intro hno1 bd1))
      clear hok1 hno1 bd1
      have z2 := (Below.cell e2 (p := ⟨b, o + 2, none⟩) hb).trans d2
      go_wp2_with fail
      refine (l01Signed_any _ _ HZ.out.2).mono ?_
      rintro e w3 ⟨m2, ok2, rfl, bd2, hok2, hno2, e3⟩
      have HK2 := Lib.hid (And.intro hok2 (And.intro hno2 bd2))
      clear hok2 hno2 bd2 z2 d0 d1 d2
      have xg := ((x1.trans e2).trans e3).alloc (.cells #[.int .i64 m1, .int .i64 m2] 60)
      cases hk1 : ok1
      · have HW := Lib.hid (show ∀ y, ¬ isSp s y from fun y hy => HK1.out.2.1 hk1 y.from_ (sp_bd hy).1.1 (sp_bd hy).1.2 (HS.out y hy).1)
        clear HK1 HK2 hk1
        have b0 : _ = some (Value.int .i64 0) := box_keptG xg 0
        have b1 : _ = some (Value.int .i64 0) := box_keptG xg 1
        have f0 := box_frozen xg 0
        have f1 := box_frozen xg 1
        go_wp2
        exact bodyPost_ret (v := .tuple #[.agg #[.int .i64 0, .int .i64 0], .int .i64 6]) (by simp [results, Tryz.results96, go_sem, b0, b1]) rfl ⟨⟨0, 0⟩, 6, rfl, .inr ⟨rfl, HW.out⟩, ((xb.trans xg).setCell (p := ⟨w.heap.size, 0, none⟩) (Nat.le_refl _) _).setCell (p := ⟨w.heap.size, 1, none⟩) (Nat.le_refl _) _⟩
      · cases hk2 : ok2
        · have HW := Lib.hid (show ∀ y, ¬ isSp s y from fun y hy => HK2.out.2.1 hk2 y.to_ (sp_bd hy).2.1 (sp_bd hy).2.2 (HS.out y hy).2)
          clear HK1 HK2 hk1 hk2
          have b0 : _ = some (Value.int .i64 0) := box_keptG xg 0
          have b1 : _ = some (Value.int .i64 0) := box_keptG xg 1
          have f0 := box_frozen xg 0
          have f1 := box_frozen xg 1
          go_wp2
          exact bodyPost_ret (v := .tuple #[.agg #[.int .i64 0, .int .i64 0], .int .i64 6]) (by simp [results, Tryz.results96, go_sem, b0, b1]) rfl ⟨⟨0, 0⟩, 6, rfl, .inr ⟨rfl, HW.out⟩, ((xb.trans xg).setCell (p := ⟨w.heap.size, 0, none⟩) (Nat.le_refl _) _).setCell (p := ⟨w.heap.size, 1, none⟩) (Nat.le_refl _) _⟩
        · have HE := Lib.hid (sp_eq HS.out HK1.out.2.2 HK2.out.2.2 (HK1.out.1 hk1) (HK2.out.1 hk2))
          clear HK1 HK2 hk1 hk2
          go_wp2_with fail
          refine (specIsSpan_any ⟨m1, m2⟩ _).mono ?_
          rintro e w4 ⟨rfl, e4⟩
          have y0 : _ = some (Value.int .i64 m1) := box_keptG e4 0
          have y1 : _ = some (Value.int .i64 m2) := box_keptG e4 1
          have xh := xg.trans e4
          cases hp : spanB ⟨m1, m2⟩
          · have HW := Lib.hid (show ∀ y, ¬ isSp s y from fun y hy => by
              have := HE.out y hy
              subst this
              exact absurd hy.1 (by rw [hp]; decide))
            clear hp
            have b0 : _ = some (Value.int .i64 0) := box_keptG xh 0
            have b1 : _ = some (Value.int .i64 0) := box_keptG xh 1
            have f0 := box_frozen xh 0
            have f1 := box_frozen xh 1
            go_wp2
            exact bodyPost_ret (v := .tuple #[.agg #[.int .i64 0, .int .i64 0], .int .i64 6]) (by simp [results, Tryz.results96, go_sem, b0, b1]) rfl ⟨⟨0, 0⟩, 6, rfl, .inr ⟨rfl, HW.out⟩, ((xb.trans xh).setCell (p := ⟨w.heap.size, 0, none⟩) (Nat.le_refl _) _).setCell (p := ⟨w.heap.size, 1, none⟩) (Nat.le_refl _) _⟩
          · have HP := Lib.hid hp
            clear hp
            go_wp2_with fail
            refine (l02Text_any ⟨m1, m2⟩ _ HP.out).mono ?_
            rintro e w5 ⟨rfl, e5⟩
            have xi := xh.trans e5
            have z0 : _ = some (Value.int .i64 m1) := box_keptG (e4.trans e5) 0
            have z1 : _ = some (Value.int .i64 m2) := box_keptG (e4.trans e5) 1
            have ht : ((spanTB m1 m2).toList == s.toList) = decide (spanT m1 m2 = s.data.toList) := by
              rw [ByteArray.toList_eq, ByteArray.toList_eq]
              show (spanT m1 m2 == s.data.toList) = _
              rw [Bool.eq_iff_iff]; simp
            clear y0 y1
            cases hd : ((spanTB m1 m2).toList == s.toList)
            · have HW := Lib.hid (show ∀ y, ¬ isSp s y from fun y hy => by
                have := HE.out y hy
                subst this
                rw [ht] at hd
                exact of_decide_eq_false hd hy.2)
              clear ht
              have b0 : _ = some (Value.int .i64 0) := box_keptG xi 0
              have b1 : _ = some (Value.int .i64 0) := box_keptG xi 1
              have f0 := box_frozen xi 0
              have f1 := box_frozen xi 1
              go_wp2
              exact bodyPost_ret (v := .tuple #[.agg #[.int .i64 0, .int .i64 0], .int .i64 6]) (by simp [results, Tryz.results96, go_sem, b0, b1]) rfl ⟨⟨0, 0⟩, 6, rfl, .inr ⟨rfl, HW.out⟩, ((xb.trans xi).setCell (p := ⟨w.heap.size, 0, none⟩) (Nat.le_refl _) _).setCell (p := ⟨w.heap.size, 1, none⟩) (Nat.le_refl _) _⟩
            · have HW := Lib.hid (show isSp s ⟨m1, m2⟩ from ⟨HP.out, by rw [ht] at hd; exact of_decide_eq_true hd⟩)
              clear ht
              have b0 : _ = some (Value.int .i64 0) := box_keptG xi 0
              have b1 : _ = some (Value.int .i64 0) := box_keptG xi 1
              have f0 := box_frozen xi 0
              have f1 := box_frozen xi 1
              go_wp2
              exact bodyPost_ret (v := .tuple #[.agg #[.int .i64 m1, .int .i64 m2], .int .i64 0]) (by simp [results, Tryz.results96, go_sem, b0, b1]) rfl ⟨⟨m1, m2⟩, 0, rfl, .inl ⟨rfl, HW.out⟩, ((xb.trans xi).setCell (p := ⟨w.heap.size, 0, none⟩) (Nat.le_refl _) _).setCell (p := ⟨w.heap.size, 1, none⟩) (Nat.le_refl _) _⟩
  · have HR := Lib.hid (show ∀ y, ¬ isSp s y from fun y hy => h3 (by have := congrArg List.length (hS y hy); simpa using this))
    have hne : ¬ (L.length : Int) = 3 := by omega
    clear h3 hS
    go_enter Tryz.func96, Tryz.ntmps96
    go_wp2_with fail
    refine HC.out.mono ?_
    rintro e w1 ⟨v1, rfl, a1, n1, c1, rfl, o1, x1⟩
    obtain rfl := o1.rd.len
    have b0 : _ = some (Value.int .i64 0) := box_keptG x1 0
    have b1 : _ = some (Value.int .i64 0) := box_keptG x1 1
    have f0 := box_frozen x1 0
    have f1 := box_frozen x1 1
    go_wp2
    exact bodyPost_ret (v := .tuple #[.agg #[.int .i64 0, .int .i64 0], .int .i64 6]) (by simp [results, Tryz.results96, go_sem, b0, b1]) rfl ⟨⟨0, 0⟩, 6, rfl, .inr ⟨rfl, HR.out⟩, ((xb.trans x1).setCell (p := ⟨w.heap.size, 0, none⟩) (Nat.le_refl _) _).setCell (p := ⟨w.heap.size, 1, none⟩) (Nat.le_refl _) _⟩

end Go.Proofs.YtajgjccnhippcaaGreatDoor

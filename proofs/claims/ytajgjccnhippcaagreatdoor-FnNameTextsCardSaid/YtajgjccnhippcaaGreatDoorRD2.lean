/-
  impl.ReadName.
-/
import Derived.Test.YtajgjccnhippcaaGreatDoorRD
namespace Go.Proofs.YtajgjccnhippcaaGreatDoor
open Go.RowKit

theorem splitC_list (c : UInt8) (s : ByteArray) : splitL c s.data.toList = (splitC c s).map (·.data.toList) := by
  rw [splitC, List.map_map]
  conv => lhs; rw [← List.map_id (splitL c s.data.toList)]
  rfl
theorem rd_short {s : ByteArray} (h : (splitC 47 s).length ≠ 4) : rdV s = noName ∧ rdC s = 6 :=
  rd_no fun x hx => h (by rw [splitC, List.length_map, isText_split hx]; rfl)
theorem four {α : Type} {l : List α} (h : l.length = 4) : ∃ a b c d, l = [a, b, c, d] := by
  match l, h with
  | [a, b, c, d], _ => exact ⟨a, b, c, d, rfl⟩
theorem rd_four_yes {s a b c d : ByteArray} (h : splitC 47 s = [a, b, c, d]) (h1 : numB c.data.toList = true) (h2 : spB d.data.toList = true) (h3 : nameB ⟨a, b, numV c.data.toList, (spV d.data.toList).from_, (spV d.data.toList).to_⟩ = true) :
    rdV s = ⟨a, b, numV c.data.toList, (spV d.data.toList).from_, (spV d.data.toList).to_⟩ ∧ rdC s = 0 :=
  rd_yes (isText_of (t := a) (l := b) (by rw [splitC_list, h]; rfl) (num_ok h1).1 (sp_ok h2).1 h3)
theorem rd_four_no {s a b c d : ByteArray} (h : splitC 47 s = [a, b, c, d]) (h1 : numB c.data.toList = true → spB d.data.toList = true → nameB ⟨a, b, numV c.data.toList, (spV d.data.toList).from_, (spV d.data.toList).to_⟩ = true → False) :
    rdV s = noName ∧ rdC s = 6 := by
  refine rd_no fun x hx => ?_
  have hs := isText_split hx
  rw [splitC_list, h] at hs
  simp only [List.map_cons, List.map_nil, List.cons.injEq, and_true] at hs
  obtain ⟨e1, e2, e3, e4⟩ := hs
  have k1 := eqS.1 e1
  have k2 := eqS.1 e2
  obtain ⟨_, _, b3, b4⟩ := nameB_all hx.1
  obtain ⟨n1, n2⟩ := num_of (by omega) (by omega) e3.symm
  obtain ⟨s1, s2⟩ := sp_of e4.symm b4
  refine h1 n1 s1 ?_
  rw [n2, s2, k1, k2]
  exact hx.1

def RetNC (w : World) (p : NameV) (code : Int) (e : Ending) (w' : World) : Prop := e = .returned (.tuple #[valName p, .int .i64 code]) ∧ Ext w w'

set_option maxRecDepth 100000 in
set_option maxHeartbeats 2000000 in
theorem implReadName_any (s : ByteArray) (w : World) (hs : s.size ≤ 1073741824) (ht : TabW w) (he : ErrW w) (hmax : MaxW w) :
    Calls Tryz.prog 46 #[.string s] w (RetNC w (rdV s) (rdC s)) := by
  have hmax0 := hmax
  obtain ⟨m, hm⟩ := hmax0
  have xb := (Ext.refl w).alloc (.cells #[.string ⟨#[]⟩, .string ⟨#[]⟩, .int .i64 0, .int .i64 0, .int .i64 0] 62)
  have hm' := (Below.cell xb (p := ⟨0, 0, none⟩) (World.block_lt_of_cell? w _ hm)).trans hm
  have hsp := Tryz.strings_Split s ⟨#[47]⟩ m _ (by omega) hm' (by decide)
  rw [(splitB_one 47 s).1, ← (splitB_one 47 s).2] at hsp
  have hsm : ∀ p ∈ splitC 47 s, p.size ≤ s.size := splitC_small
  clear hm hm'
  by_cases h4 : (splitC 47 s).length = 4
  · obtain ⟨a, b, c, d, h⟩ := four h4
    have hy := rd_four_yes h
    have hz := rd_four_no h
    rw [h] at hsp hsm
    have HC := Lib.hid hsp
    have hsa := Nat.le_trans (hsm a (by simp)) hs
    have hsb := Nat.le_trans (hsm b (by simp)) hs
    have hsc := Nat.le_trans (hsm c (by simp)) hs
    have hsd := Nat.le_trans (hsm d (by simp)) hs
    have HS := Lib.hid (And.intro hsc hsd)
    have HO := Lib.hid (show okName ⟨a, b, numV c.data.toList, (spV d.data.toList).from_, (spV d.data.toList).to_⟩ from ⟨hsa, hsb⟩)
    clear h h4 hsp hsm hsa hsb hsc hsd
    have HR : (numB c.data.toList && (spB d.data.toList && nameB ⟨a, b, numV c.data.toList, (spV d.data.toList).from_, (spV d.data.toList).to_⟩)) = true → rdV s = ⟨a, b, numV c.data.toList, (spV d.data.toList).from_, (spV d.data.toList).to_⟩ ∧ rdC s = 0 := fun hh => by
      rw [Bool.and_eq_true, Bool.and_eq_true] at hh
      exact hy hh.1 hh.2.1 hh.2.2
    have HN : (numB c.data.toList && (spB d.data.toList && nameB ⟨a, b, numV c.data.toList, (spV d.data.toList).from_, (spV d.data.toList).to_⟩)) = false → rdV s = noName ∧ rdC s = 6 := fun hh => hz fun k1 k2 k3 => by
      rw [k1, k2, k3] at hh
      exact absurd hh (by decide)
    have HR := Lib.hid (And.intro HR HN)
    clear hy hz HN
    have xc := xb.alloc (.cells #[.string a, .string b, .string c, .string d] 9)
    have xk := (Ext.refl (w.alloc (.cells #[.string ⟨#[]⟩, .string ⟨#[]⟩, .int .i64 0, .int .i64 0, .int .i64 0] 62))).alloc (.cells #[.string a, .string b, .string c, .string d] 9)
    cases h1 : numB c.data.toList
    · have H1 := Lib.hid h1
      rw [h1] at HR
      clear h1
      go_enter Tryz.func46, Tryz.ntmps46
      go_wp2_with fail
      refine HC.out.mono ?_
      rintro e w1 ⟨rfl, rfl⟩
      simp only [List.map_cons, List.map_nil]
      go_wp2_with fail
      refine (readNumber_any c _ HS.out.1 (ht.ext xc) (he.ext xc)).mono ?_
      rintro e w2 ⟨rfl, e2⟩
      rw [H1.out]
      have d3 : w2.cell? ⟨w.heap.size + 1, 3, none⟩ = some (.string d) := by have := box_keptG e2 3; rwa [World.size_alloc] at this
      go_wp2_with fail
      refine (readSpan_any d _ HS.out.2 (ht.ext (xc.trans e2)) (he.ext (xc.trans e2)) (hmax.ext (xc.trans e2))).mono ?_
      rintro e w3 ⟨rfl, e3⟩
      rw [valSpan]
      clear d3
      have xe := e2.trans e3
      have xf := xe.alloc (.cells #[.int .i64 (spV d.data.toList).from_, .int .i64 (spV d.data.toList).to_] 60)
      have d0 : _ = some (Value.string a) := box_keptG xf 0
      have d1 : _ = some (Value.string b) := box_keptG xf 1
      rw [World.size_alloc] at d0 d1
      have xh := xf.alloc (.cells #[.string ⟨#[]⟩, .string ⟨#[]⟩, .int .i64 0, .int .i64 0, .int .i64 0] 62)
      have k0 : _ = some (Value.string a) := box_keptG xh 0
      have k1 : _ = some (Value.string b) := box_keptG xh 1
      rw [World.size_alloc] at k0 k1
      go_wp2
      go_region
      clear d0 d1 k0 k1 xf xh
      have xg := (((xk.trans xe).alloc (.cells #[.int .i64 (spV d.data.toList).from_, .int .i64 (spV d.data.toList).to_] 60)).alloc (.cells #[.string a, .string b, .int .i64 (numV c.data.toList), .int .i64 (spV d.data.toList).from_, .int .i64 (spV d.data.toList).to_] 62))
      have b0 : _ = some (Value.string ⟨#[]⟩) := box_keptG xg 0
      have f0 := box_frozen xg 0
      have b1 : _ = some (Value.string ⟨#[]⟩) := box_keptG xg 1
      have f1 := box_frozen xg 1
      have b2 : _ = some (Value.int .i64 0) := box_keptG xg 2
      have f2 := box_frozen xg 2
      have b3 : _ = some (Value.int .i64 0) := box_keptG xg 3
      have f3 := box_frozen xg 3
      have b4 : _ = some (Value.int .i64 0) := box_keptG xg 4
      have f4 := box_frozen xg 4
      go_wp2
      exact bodyPost_ret (v := .tuple #[.agg #[.string ⟨#[]⟩, .string ⟨#[]⟩, .int .i64 0, .int .i64 0, .int .i64 0], .int .i64 6]) (by simp [results, Tryz.results46, go_sem, b0, b1, b2, b3, b4]) rfl ⟨by rw [(HR.out.2 (by trivial)).1, (HR.out.2 (by trivial)).2]; rfl, ((((((xb.trans xg).setCell (p := ⟨w.heap.size, 0, none⟩) (Nat.le_refl _) _).setCell (p := ⟨w.heap.size, 1, none⟩) (Nat.le_refl _) _).setCell (p := ⟨w.heap.size, 2, none⟩) (Nat.le_refl _) _).setCell (p := ⟨w.heap.size, 3, none⟩) (Nat.le_refl _) _).setCell (p := ⟨w.heap.size, 4, none⟩) (Nat.le_refl _) _).drew⟩
    · have H1 := Lib.hid h1
      rw [h1, Bool.true_and] at HR
      clear h1
      cases h2 : spB d.data.toList
      · have H2 := Lib.hid h2
        rw [h2] at HR
        clear h2
        go_enter Tryz.func46, Tryz.ntmps46
        go_wp2_with fail
        refine HC.out.mono ?_
        rintro e w1 ⟨rfl, rfl⟩
        simp only [List.map_cons, List.map_nil]
        go_wp2_with fail
        refine (readNumber_any c _ HS.out.1 (ht.ext xc) (he.ext xc)).mono ?_
        rintro e w2 ⟨rfl, e2⟩
        rw [H1.out]
        have d3 : w2.cell? ⟨w.heap.size + 1, 3, none⟩ = some (.string d) := by have := box_keptG e2 3; rwa [World.size_alloc] at this
        go_wp2_with fail
        refine (readSpan_any d _ HS.out.2 (ht.ext (xc.trans e2)) (he.ext (xc.trans e2)) (hmax.ext (xc.trans e2))).mono ?_
        rintro e w3 ⟨rfl, e3⟩
        rw [valSpan, H2.out]
        clear d3
        have xe := e2.trans e3
        have xf := xe.alloc (.cells #[.int .i64 (spV d.data.toList).from_, .int .i64 (spV d.data.toList).to_] 60)
        have d0 : _ = some (Value.string a) := box_keptG xf 0
        have d1 : _ = some (Value.string b) := box_keptG xf 1
        rw [World.size_alloc] at d0 d1
        have xh := xf.alloc (.cells #[.string ⟨#[]⟩, .string ⟨#[]⟩, .int .i64 0, .int .i64 0, .int .i64 0] 62)
        have k0 : _ = some (Value.string a) := box_keptG xh 0
        have k1 : _ = some (Value.string b) := box_keptG xh 1
        rw [World.size_alloc] at k0 k1
        go_wp2
        go_region
        clear d0 d1 k0 k1 xf xh
        have xg := (((xk.trans xe).alloc (.cells #[.int .i64 (spV d.data.toList).from_, .int .i64 (spV d.data.toList).to_] 60)).alloc (.cells #[.string a, .string b, .int .i64 (numV c.data.toList), .int .i64 (spV d.data.toList).from_, .int .i64 (spV d.data.toList).to_] 62))
        have b0 : _ = some (Value.string ⟨#[]⟩) := box_keptG xg 0
        have f0 := box_frozen xg 0
        have b1 : _ = some (Value.string ⟨#[]⟩) := box_keptG xg 1
        have f1 := box_frozen xg 1
        have b2 : _ = some (Value.int .i64 0) := box_keptG xg 2
        have f2 := box_frozen xg 2
        have b3 : _ = some (Value.int .i64 0) := box_keptG xg 3
        have f3 := box_frozen xg 3
        have b4 : _ = some (Value.int .i64 0) := box_keptG xg 4
        have f4 := box_frozen xg 4
        go_wp2
        exact bodyPost_ret (v := .tuple #[.agg #[.string ⟨#[]⟩, .string ⟨#[]⟩, .int .i64 0, .int .i64 0, .int .i64 0], .int .i64 6]) (by simp [results, Tryz.results46, go_sem, b0, b1, b2, b3, b4]) rfl ⟨by rw [(HR.out.2 (by trivial)).1, (HR.out.2 (by trivial)).2]; rfl, ((((((xb.trans xg).setCell (p := ⟨w.heap.size, 0, none⟩) (Nat.le_refl _) _).setCell (p := ⟨w.heap.size, 1, none⟩) (Nat.le_refl _) _).setCell (p := ⟨w.heap.size, 2, none⟩) (Nat.le_refl _) _).setCell (p := ⟨w.heap.size, 3, none⟩) (Nat.le_refl _) _).setCell (p := ⟨w.heap.size, 4, none⟩) (Nat.le_refl _) _).drew⟩
      · have H2 := Lib.hid h2
        rw [h2, Bool.true_and] at HR
        clear h2
        cases h3 : nameB ⟨a, b, numV c.data.toList, (spV d.data.toList).from_, (spV d.data.toList).to_⟩
        · have H3 := Lib.hid h3
          rw [h3] at HR
          clear h3
          go_enter Tryz.func46, Tryz.ntmps46
          go_wp2_with fail
          refine HC.out.mono ?_
          rintro e w1 ⟨rfl, rfl⟩
          simp only [List.map_cons, List.map_nil]
          go_wp2_with fail
          refine (readNumber_any c _ HS.out.1 (ht.ext xc) (he.ext xc)).mono ?_
          rintro e w2 ⟨rfl, e2⟩
          rw [H1.out]
          have d3 : w2.cell? ⟨w.heap.size + 1, 3, none⟩ = some (.string d) := by have := box_keptG e2 3; rwa [World.size_alloc] at this
          go_wp2_with fail
          refine (readSpan_any d _ HS.out.2 (ht.ext (xc.trans e2)) (he.ext (xc.trans e2)) (hmax.ext (xc.trans e2))).mono ?_
          rintro e w3 ⟨rfl, e3⟩
          rw [valSpan, H2.out]
          clear d3
          have xe := e2.trans e3
          have xf := xe.alloc (.cells #[.int .i64 (spV d.data.toList).from_, .int .i64 (spV d.data.toList).to_] 60)
          have d0 : _ = some (Value.string a) := box_keptG xf 0
          have d1 : _ = some (Value.string b) := box_keptG xf 1
          rw [World.size_alloc] at d0 d1
          have xh := xf.alloc (.cells #[.string ⟨#[]⟩, .string ⟨#[]⟩, .int .i64 0, .int .i64 0, .int .i64 0] 62)
          have k0 : _ = some (Value.string a) := box_keptG xh 0
          have k1 : _ = some (Value.string b) := box_keptG xh 1
          rw [World.size_alloc] at k0 k1
          go_wp2
          go_region
          clear d0 d1 k0 k1 xf xh
          have xg := (((xk.trans xe).alloc (.cells #[.int .i64 (spV d.data.toList).from_, .int .i64 (spV d.data.toList).to_] 60)).alloc (.cells #[.string a, .string b, .int .i64 (numV c.data.toList), .int .i64 (spV d.data.toList).from_, .int .i64 (spV d.data.toList).to_] 62))
          go_wp2_with fail
          refine (implIsName_any ⟨a, b, numV c.data.toList, (spV d.data.toList).from_, (spV d.data.toList).to_⟩ _ HO.out (hmax.ext (xb.trans xg.drew))).mono ?_
          rintro e w5 ⟨rfl, e5⟩
          rw [H3.out]
          have xi := xg.drew.trans e5
          have z0 : _ = some (Value.string a) := box_keptG ((Ext.refl _).drew.trans e5) 0
          have z1 : _ = some (Value.string b) := box_keptG ((Ext.refl _).drew.trans e5) 1
          have z2 : _ = some (Value.int .i64 (numV c.data.toList)) := box_keptG ((Ext.refl _).drew.trans e5) 2
          have z3 : _ = some (Value.int .i64 (spV d.data.toList).from_) := box_keptG ((Ext.refl _).drew.trans e5) 3
          have z4 : _ = some (Value.int .i64 (spV d.data.toList).to_) := box_keptG ((Ext.refl _).drew.trans e5) 4
          rw [World.size_alloc] at z0 z1 z2 z3 z4
          have b0 : _ = some (Value.string ⟨#[]⟩) := box_keptG xi 0
          have f0 := box_frozen xi 0
          have b1 : _ = some (Value.string ⟨#[]⟩) := box_keptG xi 1
          have f1 := box_frozen xi 1
          have b2 : _ = some (Value.int .i64 0) := box_keptG xi 2
          have f2 := box_frozen xi 2
          have b3 : _ = some (Value.int .i64 0) := box_keptG xi 3
          have f3 := box_frozen xi 3
          have b4 : _ = some (Value.int .i64 0) := box_keptG xi 4
          have f4 := box_frozen xi 4
          go_wp2
          exact bodyPost_ret (v := .tuple #[.agg #[.string ⟨#[]⟩, .string ⟨#[]⟩, .int .i64 0, .int .i64 0, .int .i64 0], .int .i64 6]) (by simp [results, Tryz.results46, go_sem, b0, b1, b2, b3, b4]) rfl ⟨by rw [(HR.out.2 (by trivial)).1, (HR.out.2 (by trivial)).2]; rfl, (((((xb.trans xi).setCell (p := ⟨w.heap.size, 0, none⟩) (Nat.le_refl _) _).setCell (p := ⟨w.heap.size, 1, none⟩) (Nat.le_refl _) _).setCell (p := ⟨w.heap.size, 2, none⟩) (Nat.le_refl _) _).setCell (p := ⟨w.heap.size, 3, none⟩) (Nat.le_refl _) _).setCell (p := ⟨w.heap.size, 4, none⟩) (Nat.le_refl _) _⟩
        · have H3 := Lib.hid h3
          rw [h3] at HR
          clear h3
          go_enter Tryz.func46, Tryz.ntmps46
          go_wp2_with fail
          refine HC.out.mono ?_
          rintro e w1 ⟨rfl, rfl⟩
          simp only [List.map_cons, List.map_nil]
          go_wp2_with fail
          refine (readNumber_any c _ HS.out.1 (ht.ext xc) (he.ext xc)).mono ?_
          rintro e w2 ⟨rfl, e2⟩
          rw [H1.out]
          have d3 : w2.cell? ⟨w.heap.size + 1, 3, none⟩ = some (.string d) := by have := box_keptG e2 3; rwa [World.size_alloc] at this
          go_wp2_with fail
          refine (readSpan_any d _ HS.out.2 (ht.ext (xc.trans e2)) (he.ext (xc.trans e2)) (hmax.ext (xc.trans e2))).mono ?_
          rintro e w3 ⟨rfl, e3⟩
          rw [valSpan, H2.out]
          clear d3
          have xe := e2.trans e3
          have xf := xe.alloc (.cells #[.int .i64 (spV d.data.toList).from_, .int .i64 (spV d.data.toList).to_] 60)
          have d0 : _ = some (Value.string a) := box_keptG xf 0
          have d1 : _ = some (Value.string b) := box_keptG xf 1
          rw [World.size_alloc] at d0 d1
          have xh := xf.alloc (.cells #[.string ⟨#[]⟩, .string ⟨#[]⟩, .int .i64 0, .int .i64 0, .int .i64 0] 62)
          have k0 : _ = some (Value.string a) := box_keptG xh 0
          have k1 : _ = some (Value.string b) := box_keptG xh 1
          rw [World.size_alloc] at k0 k1
          go_wp2
          go_region
          clear d0 d1 k0 k1 xf xh
          have xg := (((xk.trans xe).alloc (.cells #[.int .i64 (spV d.data.toList).from_, .int .i64 (spV d.data.toList).to_] 60)).alloc (.cells #[.string a, .string b, .int .i64 (numV c.data.toList), .int .i64 (spV d.data.toList).from_, .int .i64 (spV d.data.toList).to_] 62))
          go_wp2_with fail
          refine (implIsName_any ⟨a, b, numV c.data.toList, (spV d.data.toList).from_, (spV d.data.toList).to_⟩ _ HO.out (hmax.ext (xb.trans xg.drew))).mono ?_
          rintro e w5 ⟨rfl, e5⟩
          rw [H3.out]
          have xi := xg.drew.trans e5
          have z0 : _ = some (Value.string a) := box_keptG ((Ext.refl _).drew.trans e5) 0
          have z1 : _ = some (Value.string b) := box_keptG ((Ext.refl _).drew.trans e5) 1
          have z2 : _ = some (Value.int .i64 (numV c.data.toList)) := box_keptG ((Ext.refl _).drew.trans e5) 2
          have z3 : _ = some (Value.int .i64 (spV d.data.toList).from_) := box_keptG ((Ext.refl _).drew.trans e5) 3
          have z4 : _ = some (Value.int .i64 (spV d.data.toList).to_) := box_keptG ((Ext.refl _).drew.trans e5) 4
          rw [World.size_alloc] at z0 z1 z2 z3 z4
          have b0 : _ = some (Value.string ⟨#[]⟩) := box_keptG xi 0
          have f0 := box_frozen xi 0
          have b1 : _ = some (Value.string ⟨#[]⟩) := box_keptG xi 1
          have f1 := box_frozen xi 1
          have b2 : _ = some (Value.int .i64 0) := box_keptG xi 2
          have f2 := box_frozen xi 2
          have b3 : _ = some (Value.int .i64 0) := box_keptG xi 3
          have f3 := box_frozen xi 3
          have b4 : _ = some (Value.int .i64 0) := box_keptG xi 4
          have f4 := box_frozen xi 4
          go_wp2
          exact bodyPost_ret (v := .tuple #[.agg #[.string a, .string b, .int .i64 (numV c.data.toList), .int .i64 (spV d.data.toList).from_, .int .i64 (spV d.data.toList).to_], .int .i64 0]) (by simp [results, Tryz.results46, go_sem, b0, b1, b2, b3, b4]) rfl ⟨by rw [(HR.out.1 (by trivial)).1, (HR.out.1 (by trivial)).2]; rfl, (((((xb.trans xi).setCell (p := ⟨w.heap.size, 0, none⟩) (Nat.le_refl _) _).setCell (p := ⟨w.heap.size, 1, none⟩) (Nat.le_refl _) _).setCell (p := ⟨w.heap.size, 2, none⟩) (Nat.le_refl _) _).setCell (p := ⟨w.heap.size, 3, none⟩) (Nat.le_refl _) _).setCell (p := ⟨w.heap.size, 4, none⟩) (Nat.le_refl _) _⟩
  · have HR := Lib.hid (rd_short h4)
    have HC := Lib.hid hsp
    have hne : ¬ ((splitC 47 s).length : Int) = 4 := by omega
    clear h4 hsp
    go_enter Tryz.func46, Tryz.ntmps46
    go_wp2_with fail
    refine HC.out.mono ?_
    rintro e w1 ⟨rfl, rfl⟩
    go_wp2
    exact bodyPost_ret (v := .tuple #[.agg #[.string ⟨#[]⟩, .string ⟨#[]⟩, .int .i64 0, .int .i64 0, .int .i64 0], .int .i64 6]) (by simp [results, Tryz.results46, go_sem]) rfl ⟨by rw [HR.out.1, HR.out.2]; rfl, by repeat (first | exact Ext.refl _ | exact xb | apply Ext.alloc | refine Ext.setCell ?_ (Nat.le_refl _) _)⟩

end Go.Proofs.YtajgjccnhippcaaGreatDoor

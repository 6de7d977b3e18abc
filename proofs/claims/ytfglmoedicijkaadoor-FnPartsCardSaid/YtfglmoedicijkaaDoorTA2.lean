/-
  The program's own taking apart of a phrase.
-/
import Derived.Test.YtfglmoedicijkaaDoorTA
import Derived.Test.YtfglmoedicijkaaDoorAP
import Derived.Deep.RegionHeld3
import Derived.Deep.DrawnRows
namespace Go.Proofs.YtfglmoedicijkaaDoor
open Go.RowKit

attribute [local go_sem ↓] Go.wp_at_zero Go.wp_at_succ

set_option maxRecDepth 100000 in
set_option maxHeartbeats 1000000 in
theorem takeApart_any (a : Option Addr) (n c : Nat) (s : ByteArray) (gs : List ByteArray) (w : World) (hr : RdS w a n gs) (hp : phraseB s = true) (hs : s.size ≤ 1073741824) (hmax : MaxW w) :
    Calls Tryd.prog 63 #[.slice a n c, .string s] w fun e w' => e = .returned (.tuple #[valParts (apartP gs s), .bool (apartF gs s)]) ∧ Ext w w' := by
  obtain ⟨hn8, hwords⟩ := phrase_words hp
  have htot := words_tot hwords
  clear hwords hp
  by_cases h1 : 1 < (splitC 32 s).length
  · cases hl : hasS gs (nthS (splitC 32 s) ((splitC 32 s).length - 1))
    · cases h0 : hasS gs (nthS (splitC 32 s) 0)
      · have hpp : apartP gs s = ⟨s, ⟨#[]⟩⟩ := by rw [apartP, if_neg (by rw [hl]; simp), if_neg (by rw [h0]; simp)]
        have hpf : apartF gs s = false := by rw [apartF, if_neg (by rw [hl]; simp), if_neg (by rw [h0]; simp)]
        have HR := Lib.hid (And.intro hpp hpf)
        have hge : hasS gs (nthS (splitC 32 s) ((splitC 32 s).length - 1)) = false := hl
        have hge0 : hasS gs (nthS (splitC 32 s) 0) = false := h0
        clear hpp hpf hl h0
        go_enter Tryd.func63, Tryd.ntmps63
        go_wp2_with fail
        refine (wordsOf_any s _ hs (hmax.ext ((Ext.refl _).alloc _))).mono ?_
        rintro e w1 ⟨v, rfl, a1, n1, c1, rfl, o1, x1⟩
        have hln := o1.rd.len
        obtain ⟨m, rfl⟩ : ∃ m, n1 = m + 1 := ⟨n1 - 1, by omega⟩
        have hcp := o1.cap
        obtain ⟨b, o, rfl, hbl, hc⟩ := o1.rd.at (by omega)
        have hck := hc m (by omega)
        have hbb : w.heap.size < b := by have := o1.base; simp at this; omega
        have hne : b ≠ w.heap.size := by omega
        have hne2 : w.heap.size ≠ b := by omega
        have hfr := o1.rd.front (k := m) (by omega)
        rw [hln] at hge
        rw [Nat.add_sub_cancel] at hge
        have b0 : w1.cell? ⟨w.heap.size, 0, none⟩ = some (.string ⟨#[]⟩) := box_keptG x1 0
        have b1 : w1.cell? ⟨w.heap.size, 1, none⟩ = some (.string ⟨#[]⟩) := box_keptG x1 1
        have f0 := box_frozen x1 0
        have f1 := box_frozen x1 1
        have q1 : IntKind.i64.wrap ((m : Int) + 1 - 1) = m := (IntWalk.i64_in _ (by omega)).trans (by omega)
        have q2 : IntKind.i64.wrap (m : Int) = m := IntWalk.i64_in _ (by omega)
        have p0 : (0 : Int) ≤ (m : Int) := by omega
        have p1 : (m : Int) ≤ (c1 : Int) := by omega
        have p2 : (m : Int) < (m : Int) + 1 := by omega
        have p3 : (0 : Int) < (m : Int) := by omega
        have p4 : m ≤ c1 := by omega
        have hw : tot (List.take m (splitC 32 s)) + m ≤ 1073741824 := by have := tot_take_le (ss := splitC 32 s) m (by omega); omega
        have hck0 := hc 0 (by omega)
        simp only [Nat.add_zero] at hck0
        go_wp2_with (go_at_call 72; refine (slContains_string_any _ _ _ _ _ _ (hr.ext (((Ext.refl _).alloc _).trans x1))).mono ?_; rintro e w' ⟨rfl, rfl⟩; first | rw [hge] | rw [hge0])
        exact bodyPost_ret (v := .tuple #[.agg #[.string s, .string ⟨#[]⟩], .bool false]) (by simp [results, Tryd.results63, go_sem, b0, b1]) rfl ⟨by rw [HR.out.1, HR.out.2]; rfl, ((((Ext.refl _).alloc _).trans x1).setCell (p := ⟨w.heap.size, 0, none⟩) (Nat.le_refl _) _).setCell (p := ⟨w.heap.size, 1, none⟩) (Nat.le_refl _) _⟩
      · have hpp : apartP gs s = ⟨joinS ((splitC 32 s).drop 1), nthS (splitC 32 s) 0⟩ := by rw [apartP, if_neg (by rw [hl]; simp), if_pos ⟨h1, h0⟩]
        have hpf : apartF gs s = true := by rw [apartF, if_neg (by rw [hl]; simp), if_pos ⟨h1, h0⟩]
        have HR := Lib.hid (And.intro hpp hpf)
        have hge : hasS gs (nthS (splitC 32 s) ((splitC 32 s).length - 1)) = false := hl
        have hge0 : hasS gs (nthS (splitC 32 s) 0) = true := h0
        clear hpp hpf hl h0
        go_enter Tryd.func63, Tryd.ntmps63
        go_wp2_with fail
        refine (wordsOf_any s _ hs (hmax.ext ((Ext.refl _).alloc _))).mono ?_
        rintro e w1 ⟨v, rfl, a1, n1, c1, rfl, o1, x1⟩
        have hln := o1.rd.len
        obtain ⟨m, rfl⟩ : ∃ m, n1 = m + 1 := ⟨n1 - 1, by omega⟩
        have hcp := o1.cap
        obtain ⟨b, o, rfl, hbl, hc⟩ := o1.rd.at (by omega)
        have hck := hc m (by omega)
        have hbb : w.heap.size < b := by have := o1.base; simp at this; omega
        have hne : b ≠ w.heap.size := by omega
        have hne2 : w.heap.size ≠ b := by omega
        have hfr := o1.rd.front (k := m) (by omega)
        rw [hln] at hge
        rw [Nat.add_sub_cancel] at hge
        have b0 : w1.cell? ⟨w.heap.size, 0, none⟩ = some (.string ⟨#[]⟩) := box_keptG x1 0
        have b1 : w1.cell? ⟨w.heap.size, 1, none⟩ = some (.string ⟨#[]⟩) := box_keptG x1 1
        have f0 := box_frozen x1 0
        have f1 := box_frozen x1 1
        have q1 : IntKind.i64.wrap ((m : Int) + 1 - 1) = m := (IntWalk.i64_in _ (by omega)).trans (by omega)
        have q2 : IntKind.i64.wrap (m : Int) = m := IntWalk.i64_in _ (by omega)
        have p0 : (0 : Int) ≤ (m : Int) := by omega
        have p1 : (m : Int) ≤ (c1 : Int) := by omega
        have p2 : (m : Int) < (m : Int) + 1 := by omega
        have p3 : (0 : Int) < (m : Int) := by omega
        have p4 : m ≤ c1 := by omega
        have hw : tot (List.take m (splitC 32 s)) + m ≤ 1073741824 := by have := tot_take_le (ss := splitC 32 s) m (by omega); omega
        have hck0 := hc 0 (by omega)
        simp only [Nat.add_zero] at hck0
        have hbk := o1.rd.back (k := 1) (by omega)
        rw [Nat.add_sub_cancel] at hbk
        have hwd : tot ((splitC 32 s).drop 1) + m ≤ 1073741824 := by have := tot_drop_le (ss := splitC 32 s) 1; omega
        have p5 : (1 : Int) ≤ (m : Int) + 1 := by omega
        have p6 : (0 : Int) < (m : Int) + 1 := by omega
        have p7 : 1 ≤ m + 1 := by omega
        have p8 : ¬ c1 = 1 := by omega
        have p9 : m ≤ c1 - 1 := by omega
        go_wp2_with (go_at_call 72; refine (slContains_string_any _ _ _ _ _ _ (hr.ext (((Ext.refl _).alloc _).trans x1))).mono ?_; rintro e w' ⟨rfl, rfl⟩; first | rw [hge] | rw [hge0])
        go_region_held3 (fun w' => w'.cell? ⟨b, o, none⟩ = some (.string (nthS (splitC 32 s) 0))) (go_keep) (first | (go_at_call 81; refine (join_any _ _ _ _ _ (hbk.ext (Ext.refl _).drew) p9 hwd).mono ?_; rintro e w2 ⟨rfl, hx2⟩; have d0 : w2.cell? ⟨w.heap.size, 0, none⟩ = some (.string ⟨#[]⟩) := box_keptG (x1.trans ((Ext.refl _).drew.trans hx2)) 0; have d1 : w2.cell? ⟨w.heap.size, 1, none⟩ = some (.string ⟨#[]⟩) := box_keptG (x1.trans ((Ext.refl _).drew.trans hx2)) 1; have g0 := box_frozen (x1.trans ((Ext.refl _).drew.trans hx2)) 0; have g1 := box_frozen (x1.trans ((Ext.refl _).drew.trans hx2)) 1; have k2 := (Below.cell ((Ext.refl _).drew.trans hx2) (p := ⟨b, o, none⟩) hbl).trans hck0))
        go_wp2
        exact bodyPost_ret (v := .tuple #[.agg #[.string (joinS ((splitC 32 s).drop 1)), .string (nthS (splitC 32 s) 0)], .bool true]) (by simp [results, Tryd.results63, go_sem, d0, d1]) rfl ⟨by rw [HR.out.1, HR.out.2]; rfl, (((((Ext.refl _).alloc _).trans (x1.trans ((Ext.refl _).drew.trans hx2))).setCell (p := ⟨w.heap.size, 0, none⟩) (Nat.le_refl _) _).setCell (p := ⟨w.heap.size, 1, none⟩) (Nat.le_refl _) _)⟩
    · have hpp : apartP gs s = ⟨joinS ((splitC 32 s).take ((splitC 32 s).length - 1)), nthS (splitC 32 s) ((splitC 32 s).length - 1)⟩ := by rw [apartP, if_pos ⟨h1, hl⟩]
      have hpf : apartF gs s = false := by rw [apartF, if_pos ⟨h1, hl⟩]
      have HR := Lib.hid (And.intro hpp hpf)
      have hge : hasS gs (nthS (splitC 32 s) ((splitC 32 s).length - 1)) = true := hl
      clear hpp hpf hl
      go_enter Tryd.func63, Tryd.ntmps63
      go_wp2_with fail
      refine (wordsOf_any s _ hs (hmax.ext ((Ext.refl _).alloc _))).mono ?_
      rintro e w1 ⟨v, rfl, a1, n1, c1, rfl, o1, x1⟩
      have hln := o1.rd.len
      obtain ⟨m, rfl⟩ : ∃ m, n1 = m + 1 := ⟨n1 - 1, by omega⟩
      have hcp := o1.cap
      obtain ⟨b, o, rfl, hbl, hc⟩ := o1.rd.at (by omega)
      have hck := hc m (by omega)
      have hbb : w.heap.size < b := by have := o1.base; simp at this; omega
      have hne : b ≠ w.heap.size := by omega
      have hne2 : w.heap.size ≠ b := by omega
      have hfr := o1.rd.front (k := m) (by omega)
      rw [hln] at hge HR
      rw [Nat.add_sub_cancel] at hge HR
      have b0 : w1.cell? ⟨w.heap.size, 0, none⟩ = some (.string ⟨#[]⟩) := box_keptG x1 0
      have b1 : w1.cell? ⟨w.heap.size, 1, none⟩ = some (.string ⟨#[]⟩) := box_keptG x1 1
      have f0 := box_frozen x1 0
      have f1 := box_frozen x1 1
      have q1 : IntKind.i64.wrap ((m : Int) + 1 - 1) = m := (IntWalk.i64_in _ (by omega)).trans (by omega)
      have q2 : IntKind.i64.wrap (m : Int) = m := IntWalk.i64_in _ (by omega)
      have p0 : (0 : Int) ≤ (m : Int) := by omega
      have p1 : (m : Int) ≤ (c1 : Int) := by omega
      have p2 : (m : Int) < (m : Int) + 1 := by omega
      have p3 : (0 : Int) < (m : Int) := by omega
      have p4 : m ≤ c1 := by omega
      have hw : tot (List.take m (splitC 32 s)) + m ≤ 1073741824 := by have := tot_take_le (ss := splitC 32 s) m (by omega); omega
      go_wp2_with (go_at_call 72; refine (slContains_string_any _ _ _ _ _ _ (hr.ext (((Ext.refl _).alloc _).trans x1))).mono ?_; rintro e w' ⟨rfl, rfl⟩; first | rw [hge] | rw [hge0])
      go_region_held3 (fun w' => w'.cell? ⟨b, o + m, none⟩ = some (.string (nthS (splitC 32 s) m))) (go_keep) (first | (go_at_call 81; refine (join_any _ _ _ _ _ (hfr.ext (Ext.refl _).drew) p4 hw).mono ?_; rintro e w2 ⟨rfl, hx2⟩; have d0 : w2.cell? ⟨w.heap.size, 0, none⟩ = some (.string ⟨#[]⟩) := box_keptG (x1.trans ((Ext.refl _).drew.trans hx2)) 0; have d1 : w2.cell? ⟨w.heap.size, 1, none⟩ = some (.string ⟨#[]⟩) := box_keptG (x1.trans ((Ext.refl _).drew.trans hx2)) 1; have g0 := box_frozen (x1.trans ((Ext.refl _).drew.trans hx2)) 0; have g1 := box_frozen (x1.trans ((Ext.refl _).drew.trans hx2)) 1; have k2 := (Below.cell ((Ext.refl _).drew.trans hx2) (p := ⟨b, o + m, none⟩) hbl).trans hck))
      go_wp2
      exact bodyPost_ret (v := .tuple #[.agg #[.string (joinS (List.take m (splitC 32 s))), .string (nthS (splitC 32 s) m)], .bool false]) (by simp [results, Tryd.results63, go_sem, d0, d1]) rfl ⟨by rw [HR.out.1, HR.out.2]; rfl, (((((Ext.refl _).alloc _).trans (x1.trans ((Ext.refl _).drew.trans hx2))).setCell (p := ⟨w.heap.size, 0, none⟩) (Nat.le_refl _) _).setCell (p := ⟨w.heap.size, 1, none⟩) (Nat.le_refl _) _)⟩
  · have hpp : apartP gs s = ⟨s, ⟨#[]⟩⟩ := by rw [apartP, if_neg (fun h => h1 h.1), if_neg (fun h => h1 h.1)]
    have hpf : apartF gs s = false := by rw [apartF, if_neg (fun h => h1 h.1), if_neg (fun h => h1 h.1)]
    have HR := Lib.hid (And.intro hpp hpf)
    clear hpp hpf
    go_enter Tryd.func63, Tryd.ntmps63
    go_wp2_with fail
    refine (wordsOf_any s _ hs (hmax.ext ((Ext.refl _).alloc _))).mono ?_
    rintro e w1 ⟨v, rfl, a1, n1, c1, rfl, o1, x1⟩
    have hln := o1.rd.len
    have hd2 : ¬ (0 : Int) < (n1 : Int) - 1 := by omega
    have b0 : w1.cell? ⟨w.heap.size, 0, none⟩ = some (.string ⟨#[]⟩) := box_keptG x1 0
    have b1 : w1.cell? ⟨w.heap.size, 1, none⟩ = some (.string ⟨#[]⟩) := box_keptG x1 1
    have f0 := box_frozen x1 0
    have f1 := box_frozen x1 1
    go_wp2
    exact bodyPost_ret (v := .tuple #[.agg #[.string s, .string ⟨#[]⟩], .bool false]) (by simp [results, Tryd.results63, go_sem, b0, b1]) rfl ⟨by rw [HR.out.1, HR.out.2]; rfl, ((((Ext.refl _).alloc _).trans x1).setCell (p := ⟨w.heap.size, 0, none⟩) (Nat.le_refl _) _).setCell (p := ⟨w.heap.size, 1, none⟩) (Nat.le_refl _) _⟩

end Go.Proofs.YtfglmoedicijkaaDoor

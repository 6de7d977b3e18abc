/-
  A phrase taken apart: the words before or behind a generic.
-/
import Derived.Test.YtfglmoedicijkaaDoorJ
import Derived.Test.YtfglmoedicijkaaDoorZ
import Derived.Test.YtfglmoedicijkaaDoorX
import Derived.Deep.RegionHeld3
import Derived.Deep.RegionWith
import Derived.Deep.DrawnRows
namespace Go.Proofs.YtfglmoedicijkaaDoor
open Go.RowKit
attribute [local go_sem ↓] Go.wp_at_zero Go.wp_at_succ

/-- The parts of a phrase at generics, and whether the generic comes first. -/
def apartP (gs : List ByteArray) (s : ByteArray) : PartsV :=
  if 1 < (splitC 32 s).length ∧ hasS gs (nthS (splitC 32 s) ((splitC 32 s).length - 1)) = true then ⟨joinS ((splitC 32 s).take ((splitC 32 s).length - 1)), nthS (splitC 32 s) ((splitC 32 s).length - 1)⟩
  else if 1 < (splitC 32 s).length ∧ hasS gs (nthS (splitC 32 s) 0) = true then ⟨joinS ((splitC 32 s).drop 1), nthS (splitC 32 s) 0⟩ else ⟨s, ⟨#[]⟩⟩
def apartF (gs : List ByteArray) (s : ByteArray) : Bool :=
  if 1 < (splitC 32 s).length ∧ hasS gs (nthS (splitC 32 s) ((splitC 32 s).length - 1)) = true then false
  else if 1 < (splitC 32 s).length ∧ hasS gs (nthS (splitC 32 s) 0) = true then true else false
theorem phrase_words {s : ByteArray} (h : phraseB s = true) : (splitC 32 s).length ≤ 8 ∧ wordsB (splitC 32 s) = true := by
  rw [phraseB, Bool.and_eq_true] at h
  exact ⟨of_decide_eq_true h.1, h.2⟩
theorem words_tot {ss : List ByteArray} (h : wordsB ss = true) : tot ss ≤ 16 * ss.length := by
  induction ss with
  | nil => simp [tot]
  | cons x xs ih =>
    rw [wordsB, List.all_cons, Bool.and_eq_true] at h
    have h1 := wordB_size h.1
    have h2 := ih h.2
    rw [tot] at h2 ⊢
    simp only [List.map_cons, List.sum_cons, List.length_cons]
    omega

theorem tot_drop_le {ss : List ByteArray} (k : Nat) : tot (ss.drop k) ≤ tot ss := by
  have := congrArg tot (List.take_append_drop k ss)
  simp only [tot, List.map_append, List.sum_append] at this ⊢
  omega
theorem box_frozen {w w1 : World} {cs : Array Value} {t : TypeId} (h : Ext (w.alloc (.cells cs t)) w1) (k : Nat) : w1.frozen? ⟨w.heap.size, k, none⟩ = false := by
  rw [Below.frozen h (p := ⟨w.heap.size, k, none⟩) (by simp)]
  simp

theorem Rd.back {w : World} {b o : Nat} {xs ys : List Value} (h : Rd w (some ⟨b, o, none⟩) (xs ++ ys)) : Rd w (some ⟨b, o + xs.length, none⟩) ys := by
  rcases h with h | ⟨b', o', he, hb, hc⟩
  · exact .inl (List.append_eq_nil_iff.1 h).2
  · cases he
    refine .inr ⟨b, o + xs.length, rfl, hb, fun j u hu => ?_⟩
    rw [Nat.add_assoc]
    exact hc (xs.length + j) u (by rw [List.getElem?_append_right (by omega), Nat.add_sub_cancel_left]; exact hu)
theorem RdS.back {w : World} {b o n : Nat} {ss : List ByteArray} (h : RdS w (some ⟨b, o, none⟩) n ss) {k : Nat} (hk : k ≤ n) : RdS w (some ⟨b, o + k, none⟩) (n - k) (ss.drop k) := by
  have hl := h.len
  have h2 := h.1.2.2
  rw [← List.take_append_drop k ss, List.flatMap_append] at h2
  have h3 := Rd.back h2
  have e : ((ss.take k).flatMap layS.cells).length = k := by rw [flat_len]; simp [layS]; omega
  rw [e] at h3
  have hle := h.le
  exact ⟨⟨by simp; omega, by omega, h3⟩, fun s hs => h.2 s (List.mem_of_mem_drop hs)⟩
theorem OwnS.base {w : World} {B n c b o : Nat} {ss : List ByteArray} (h : OwnS w B (some ⟨b, o, none⟩) n c ss) : B ≤ b := by
  rcases h.1.1.2 with ⟨h1, _⟩ | ⟨g, cap, cur, hv, hb, _⟩
  · cases h1
  · cases hv; exact hb

set_option maxRecDepth 100000 in
set_option maxHeartbeats 1000000 in
theorem l08Apart_any (a : Option Addr) (n c : Nat) (s : ByteArray) (gs : List ByteArray) (w : World) (hr : RdS w a n gs) (hp : phraseB s = true) (hs : s.size ≤ 1073741824) :
    Calls Tryd.prog 65 #[.slice a n c, .string s] w fun e w' => e = .returned (.tuple #[valParts (apartP gs s), .bool (apartF gs s)]) ∧ Ext w w' := by
  obtain ⟨hn8, hwords⟩ := phrase_words hp
  have htot := words_tot hwords
  have HPT := Lib.hid (phraseT_good hwords)
  clear hwords hp
  by_cases h1 : 1 < (splitC 32 s).length
  · cases hl : hasS gs (nthS (splitC 32 s) ((splitC 32 s).length - 1))
    · cases h0 : hasS gs (nthS (splitC 32 s) 0)
      · have hpp : apartP gs s = ⟨s, ⟨#[]⟩⟩ := by rw [apartP, if_neg (by rw [hl]; simp), if_neg (by rw [h0]; simp)]
        have hpf : apartF gs s = false := by rw [apartF, if_neg (by rw [hl]; simp), if_neg (by rw [h0]; simp)]
        have HR := Lib.hid (And.intro hpp hpf)
        have hge : decide (0 ≤ idxS gs (nthS (splitC 32 s) ((splitC 32 s).length - 1))) = false := hl
        have hge0 : decide (0 ≤ idxS gs (nthS (splitC 32 s) 0)) = false := h0
        clear hpp hpf hl h0
        go_enter Tryd.func65, Tryd.ntmps65
        go_wp2_with fail
        refine (l01Phrase_any s _ hs).mono ?_
        rintro e w1 ⟨v, rfl, a1, n1, c1, rfl, o1, x1⟩
        rw [HPT.out] at o1
        have hln := o1.rd.len
        obtain ⟨m, rfl⟩ : ∃ m, n1 = m + 1 := ⟨n1 - 1, by omega⟩
        have hcp := o1.cap
        obtain ⟨b, o, rfl, hbl, hc⟩ := o1.rd.at (by omega)
        have hck := hc m (by omega)
        have hbb : w.heap.size < b := by have := o1.base; simp at this; omega
        have hne : b ≠ w.heap.size := by omega
        have hne2 : w.heap.size ≠ b := by omega
        have hfr := o1.rd.front (k := m) (by omega)
        rw [hln] at hge
        rw [Nat.add_sub_cancel] at hge
        have b0 : w1.cell? ⟨w.heap.size, 0, none⟩ = some (.string ⟨#[]⟩) := box_keptG x1 0
        have b1 : w1.cell? ⟨w.heap.size, 1, none⟩ = some (.string ⟨#[]⟩) := box_keptG x1 1
        have f0 := box_frozen x1 0
        have f1 := box_frozen x1 1
        have q1 : IntKind.i64.wrap ((m : Int) + 1 - 1) = m := (IntWalk.i64_in _ (by omega)).trans (by omega)
        have q2 : IntKind.i64.wrap (m : Int) = m := IntWalk.i64_in _ (by omega)
        have p0 : (0 : Int) ≤ (m : Int) := by omega
        have p1 : (m : Int) ≤ (c1 : Int) := by omega
        have p2 : (m : Int) < (m : Int) + 1 := by omega
        have p3 : (1 : Int) < (m : Int) + 1 := by omega
        have p4 : m ≤ c1 := by omega
        have hw : tot (List.take m (splitC 32 s)) + m ≤ 1073741824 := by have := tot_take_le (ss := splitC 32 s) m (by omega); omega
        have hck0 := hc 0 (by omega)
        simp only [Nat.add_zero] at hck0
        go_wp2_with (go_at_call 71; refine (l03Find_any _ _ _ _ _ _ (hr.ext (((Ext.refl _).alloc _).trans x1))).mono ?_; rintro e w' ⟨rfl, rfl⟩)
        exact bodyPost_ret (v := .tuple #[.agg #[.string s, .string ⟨#[]⟩], .bool false]) (by simp [results, Tryd.results65, go_sem, b0, b1]) rfl ⟨by rw [HR.out.1, HR.out.2]; rfl, ((((Ext.refl _).alloc _).trans x1).setCell (p := ⟨w.heap.size, 0, none⟩) (Nat.le_refl _) _).setCell (p := ⟨w.heap.size, 1, none⟩) (Nat.le_refl _) _⟩
      · have hpp : apartP gs s = ⟨joinS ((splitC 32 s).drop 1), nthS (splitC 32 s) 0⟩ := by rw [apartP, if_neg (by rw [hl]; simp), if_pos ⟨h1, h0⟩]
        have hpf : apartF gs s = true := by rw [apartF, if_neg (by rw [hl]; simp), if_pos ⟨h1, h0⟩]
        have HR := Lib.hid (And.intro hpp hpf)
        have hge : decide (0 ≤ idxS gs (nthS (splitC 32 s) ((splitC 32 s).length - 1))) = false := hl
        have hge0 : decide (0 ≤ idxS gs (nthS (splitC 32 s) 0)) = true := h0
        clear hpp hpf hl h0
        go_enter Tryd.func65, Tryd.ntmps65
        go_wp2_with fail
        refine (l01Phrase_any s _ hs).mono ?_
        rintro e w1 ⟨v, rfl, a1, n1, c1, rfl, o1, x1⟩
        rw [HPT.out] at o1
        have hln := o1.rd.len
        obtain ⟨m, rfl⟩ : ∃ m, n1 = m + 1 := ⟨n1 - 1, by omega⟩
        have hcp := o1.cap
        obtain ⟨b, o, rfl, hbl, hc⟩ := o1.rd.at (by omega)
        have hck := hc m (by omega)
        have hbb : w.heap.size < b := by have := o1.base; simp at this; omega
        have hne : b ≠ w.heap.size := by omega
        have hne2 : w.heap.size ≠ b := by omega
        have hfr := o1.rd.front (k := m) (by omega)
        rw [hln] at hge
        rw [Nat.add_sub_cancel] at hge
        have b0 : w1.cell? ⟨w.heap.size, 0, none⟩ = some (.string ⟨#[]⟩) := box_keptG x1 0
        have b1 : w1.cell? ⟨w.heap.size, 1, none⟩ = some (.string ⟨#[]⟩) := box_keptG x1 1
        have f0 := box_frozen x1 0
        have f1 := box_frozen x1 1
        have q1 : IntKind.i64.wrap ((m : Int) + 1 - 1) = m := (IntWalk.i64_in _ (by omega)).trans (by omega)
        have q2 : IntKind.i64.wrap (m : Int) = m := IntWalk.i64_in _ (by omega)
        have p0 : (0 : Int) ≤ (m : Int) := by omega
        have p1 : (m : Int) ≤ (c1 : Int) := by omega
        have p2 : (m : Int) < (m : Int) + 1 := by omega
        have p3 : (1 : Int) < (m : Int) + 1 := by omega
        have p4 : m ≤ c1 := by omega
        have hw : tot (List.take m (splitC 32 s)) + m ≤ 1073741824 := by have := tot_take_le (ss := splitC 32 s) m (by omega); omega
        have hck0 := hc 0 (by omega)
        simp only [Nat.add_zero] at hck0
        have hbk := o1.rd.back (k := 1) (by omega)
        rw [Nat.add_sub_cancel] at hbk
        have hwd : tot ((splitC 32 s).drop 1) + m ≤ 1073741824 := by have := tot_drop_le (ss := splitC 32 s) 1; omega
        have p5 : (1 : Int) ≤ (m : Int) + 1 := by omega
        have p6 : (0 : Int) < (m : Int) + 1 := by omega
        have p7 : 1 ≤ m + 1 := by omega
        have p8 : ¬ c1 = 1 := by omega
        go_wp2_with (go_at_call 71; refine (l03Find_any _ _ _ _ _ _ (hr.ext (((Ext.refl _).alloc _).trans x1))).mono ?_; rintro e w' ⟨rfl, rfl⟩)
        go_region_held3 (fun w' => w'.cell? ⟨b, o, none⟩ = some (.string (nthS (splitC 32 s) 0))) (go_keep) (first | (go_at_call 83; refine (l01Words_any _ _ _ _ _ (hbk.ext (Ext.refl _).drew) hwd).mono ?_; rintro e w' ⟨rfl, rfl⟩))
        go_wp2
        exact bodyPost_ret (v := .tuple #[.agg #[.string (joinS ((splitC 32 s).drop 1)), .string (nthS (splitC 32 s) 0)], .bool true]) (by simp [results, Tryd.results65, go_sem, b0, b1]) rfl ⟨by rw [HR.out.1, HR.out.2]; rfl, (((((Ext.refl _).alloc _).trans x1).setCell (p := ⟨w.heap.size, 0, none⟩) (Nat.le_refl _) _).setCell (p := ⟨w.heap.size, 1, none⟩) (Nat.le_refl _) _).drew⟩
    · have hpp : apartP gs s = ⟨joinS ((splitC 32 s).take ((splitC 32 s).length - 1)), nthS (splitC 32 s) ((splitC 32 s).length - 1)⟩ := by rw [apartP, if_pos ⟨h1, hl⟩]
      have hpf : apartF gs s = false := by rw [apartF, if_pos ⟨h1, hl⟩]
      have HR := Lib.hid (And.intro hpp hpf)
      have hge : decide (0 ≤ idxS gs (nthS (splitC 32 s) ((splitC 32 s).length - 1))) = true := hl
      clear hpp hpf hl
      go_enter Tryd.func65, Tryd.ntmps65
      go_wp2_with fail
      refine (l01Phrase_any s _ hs).mono ?_
      rintro e w1 ⟨v, rfl, a1, n1, c1, rfl, o1, x1⟩
      rw [HPT.out] at o1
      have hln := o1.rd.len
      obtain ⟨m, rfl⟩ : ∃ m, n1 = m + 1 := ⟨n1 - 1, by omega⟩
      have hcp := o1.cap
      obtain ⟨b, o, rfl, hbl, hc⟩ := o1.rd.at (by omega)
      have hck := hc m (by omega)
      have hbb : w.heap.size < b := by have := o1.base; simp at this; omega
      have hne : b ≠ w.heap.size := by omega
      have hne2 : w.heap.size ≠ b := by omega
      have hfr := o1.rd.front (k := m) (by omega)
      rw [hln] at hge HR
      rw [Nat.add_sub_cancel] at hge HR
      have b0 : w1.cell? ⟨w.heap.size, 0, none⟩ = some (.string ⟨#[]⟩) := box_keptG x1 0
      have b1 : w1.cell? ⟨w.heap.size, 1, none⟩ = some (.string ⟨#[]⟩) := box_keptG x1 1
      have f0 := box_frozen x1 0
      have f1 := box_frozen x1 1
      have q1 : IntKind.i64.wrap ((m : Int) + 1 - 1) = m := (IntWalk.i64_in _ (by omega)).trans (by omega)
      have q2 : IntKind.i64.wrap (m : Int) = m := IntWalk.i64_in _ (by omega)
      have p0 : (0 : Int) ≤ (m : Int) := by omega
      have p1 : (m : Int) ≤ (c1 : Int) := by omega
      have p2 : (m : Int) < (m : Int) + 1 := by omega
      have p3 : (1 : Int) < (m : Int) + 1 := by omega
      have p4 : m ≤ c1 := by omega
      have hw : tot (List.take m (splitC 32 s)) + m ≤ 1073741824 := by have := tot_take_le (ss := splitC 32 s) m (by omega); omega
      go_wp2_with (go_at_call 71; refine (l03Find_any _ _ _ _ _ _ (hr.ext (((Ext.refl _).alloc _).trans x1))).mono ?_; rintro e w' ⟨rfl, rfl⟩)
      go_region_held3 (fun w' => w'.cell? ⟨b, o + m, none⟩ = some (.string (nthS (splitC 32 s) m))) (go_keep) (first | (go_at_call 83; refine (l01Words_any _ _ _ _ _ (hfr.ext (Ext.refl _).drew) hw).mono ?_; rintro e w' ⟨rfl, rfl⟩))
      go_wp2
      exact bodyPost_ret (v := .tuple #[.agg #[.string (joinS (List.take m (splitC 32 s))), .string (nthS (splitC 32 s) m)], .bool false]) (by simp [results, Tryd.results65, go_sem, b0, b1]) rfl ⟨by rw [HR.out.1, HR.out.2]; rfl, (((((Ext.refl _).alloc _).trans x1).setCell (p := ⟨w.heap.size, 0, none⟩) (Nat.le_refl _) _).setCell (p := ⟨w.heap.size, 1, none⟩) (Nat.le_refl _) _).drew⟩
  · have hpp : apartP gs s = ⟨s, ⟨#[]⟩⟩ := by rw [apartP, if_neg (fun h => h1 h.1), if_neg (fun h => h1 h.1)]
    have hpf : apartF gs s = false := by rw [apartF, if_neg (fun h => h1 h.1), if_neg (fun h => h1 h.1)]
    have HR := Lib.hid (And.intro hpp hpf)
    clear hpp hpf
    go_enter Tryd.func65, Tryd.ntmps65
    go_wp2_with fail
    refine (l01Phrase_any s _ hs).mono ?_
    rintro e w1 ⟨v, rfl, a1, n1, c1, rfl, o1, x1⟩
    rw [HPT.out] at o1
    have hln := o1.rd.len
    have hd : decide ((1 : Int) < (n1 : Int)) = false := decide_eq_false (by omega)
    have hd2 : ¬ (1 : Int) < (n1 : Int) := by omega
    have b0 : w1.cell? ⟨w.heap.size, 0, none⟩ = some (.string ⟨#[]⟩) := box_keptG x1 0
    have b1 : w1.cell? ⟨w.heap.size, 1, none⟩ = some (.string ⟨#[]⟩) := box_keptG x1 1
    have f0 := box_frozen x1 0
    have f1 := box_frozen x1 1
    go_wp2
    exact bodyPost_ret (v := .tuple #[.agg #[.string s, .string ⟨#[]⟩], .bool false]) (by simp [results, Tryd.results65, go_sem, b0, b1]) rfl ⟨by rw [HR.out.1, HR.out.2]; rfl, ((((Ext.refl _).alloc _).trans x1).setCell (p := ⟨w.heap.size, 0, none⟩) (Nat.le_refl _) _).setCell (p := ⟨w.heap.size, 1, none⟩) (Nat.le_refl _) _⟩

end Go.Proofs.YtfglmoedicijkaaDoor

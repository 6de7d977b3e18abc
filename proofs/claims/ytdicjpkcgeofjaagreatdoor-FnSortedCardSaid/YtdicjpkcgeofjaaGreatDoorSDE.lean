/-
  The reference's draws of alphabets, often good, and of ignored letters.
-/
import Derived.Test.YtdicjpkcgeofjaaGreatDoorSDA
namespace Go.Proofs.YtdicjpkcgeofjaaGreatDoor
open Go.RowKit
attribute [local go_sem ↓] Go.wp_at_zero Go.wp_at_succ

theorem own_capG {α : Type} {L : Lay α} {e : TypeId} {w : World} {B g n c : Nat} {xs : List α} (h : OwnG L e w B (some ⟨g, 0, none⟩) n c xs) : n ≤ c := by
  rcases h.1.2 with ⟨h1, _⟩ | ⟨g', cap, cur, hv, _, _, hcc, _⟩
  · cases h1
  · cases hv; exact hcc
def letQ (k : Nat) : ByteArray := ⟨#[113]⟩ ++ (⟨#[97, 98, 99, 100, 101, 102, 103, 104, 105, 106, 107, 108, 109, 110, 111, 112, 113, 114, 115, 116, 117, 118, 119, 120, 121, 122]⟩ : ByteArray).extract k (k + 1)
theorem letQ_size (k : Nat) : (letQ k).size ≤ 68 := by
  rw [letQ, ByteArray.size_append, ByteArray.size_extract]
  have : (⟨#[113]⟩ : ByteArray).size = 1 := rfl
  omega
theorem first_of {w : World} {B g n c : Nat} {l : List ByteArray} (h : OwnG layS 9 w B (some ⟨g, 0, none⟩) n c l) (hn : 0 < l.length) : g < w.heap.size ∧ w.cell? ⟨g, 0, none⟩ = some (.string (nthS l 0)) := by
  have hl := h.rd.len
  obtain ⟨b, o, e, hb, hc⟩ := h.rd.at (by omega)
  cases e
  refine ⟨hb, ?_⟩
  have := hc 0 (nthS l 0) (by rw [nthS_eq hn]; exact List.getElem?_eq_getElem hn) 0 (.string (nthS l 0)) rfl
  simpa [layS] using this
theorem set0_ok {l : List ByteArray} {u : ByteArray} {m : Nat} (h : ∀ s ∈ l, s.size ≤ m) (hu : u.size ≤ m) : ∀ s ∈ l.set 0 u, s.size ≤ m := fun s hs => by
  rcases List.mem_or_eq_of_mem_set hs with hs | rfl
  · exact h s hs
  · exact hu

set_option maxRecDepth 100000 in
set_option maxHeartbeats 4000000 in
theorem l03Draw_any (g : Nat) (w : World) (hs : Src w g) :
    Calls Tryz.prog 54 #[.pointer (some ⟨g, 0, none⟩)] w (DrewA 42 w g) := by
  have hg := hs.lt
  have HS := Lib.hid hs
  clear hs
  go_enter Tryz.func54, Tryz.ntmps54
  go_wp2_with fail
  refine (l03Good_any _ _ HS.out).mono ?_
  rintro e w1 ⟨⟨a1, c1, l, rfl, hl26, hl68, o1, d1⟩, hpos⟩
  have hl0 : 0 < l.length := hpos _ _ _ rfl
  have hle0 : ¬ l.length = 0 := by omega
  obtain ⟨g1, rfl⟩ := own_some o1 hl0
  have H1 := Lib.hid (And.intro o1 (And.intro d1 hl68))
  clear o1 d1 hl68 hpos
  go_wp2_with fail
  refine (l01Next_any _ _ _ H1.out.2.1.1 (by omega)).mono ?_
  rintro e w2 ⟨y, rfl, hy0, hy1, hd⟩
  have H2 := Lib.hid (And.intro (H1.out.1.drawn hd.grown hg) (And.intro (H1.out.2.1.trans hd.drew) H1.out.2.2))
  clear hd H1
  have hli : (0 : Int) < l.length := by omega
  obtain ⟨hbl, hc0⟩ := first_of H2.out.1 hl0
  have hs0 : (nthS l 0).size ≤ 68 := H2.out.2.2 _ (nthS_mem hl0)
  have hgB : w.heap.size ≤ g1 := (H2.out.1.1.lt g1 rfl).1
  by_cases y0 : y = 0
  · subst y0
    go_wp2_with (first | (at_builtin; refine wpList_appG layS rfl _ _ 24 9 rfl Tryz.underlying24 (.string ⟨#[]⟩) 16 Tryz.info_string rfl (by decide) w.heap.size _ l.length _ l rfl (H2.out.1.alloc _) _ 1 _ [nthS l 0] rfl (RdG.new1 layS _ _ _ rfl _) (by omega) (by have := H2.out.2.1.size; simp; omega) ?_; intro a2 c2 w5 hown hgrow; have HE := Lib.hid (And.intro hown (draw_grow H2.out.1.1 H2.out.2.1.1 hg (Nat.le_refl _) H2.out.2.1.2 hgrow)); clear hown hgrow))
    go_ret
    exact ⟨a2, c2, l ++ [nthS l 0], by rw [List.length_append]; rfl, by simp; omega, fun s hs => (List.mem_append.1 hs).elim (H2.out.2.2 s) (fun h => by rw [List.mem_singleton.1 h]; exact hs0), by simpa using HE.out.1, HE.out.2⟩
  by_cases y1 : y = 1
  · subst y1
    have hg2 := H2.out.2.1.1.lt
    go_wp2_with fail
    refine (l01Next_any _ _ _ (H2.out.2.1.1.ext ((Ext.refl _).alloc _)) (by omega)).mono ?_
    rintro e w3 ⟨z, rfl, hz0, hz1, hd⟩
    obtain ⟨j, rfl⟩ := Int.eq_ofNat_of_zero_le hz0
    have hj : j < 4 := by omega
    have hji : (j : Int) < 4 := by omega
    obtain ⟨u, hc, hu⟩ := Lits.new (n := 4) hd.drew hg2 (by kernel_rfl) rfl j hj
    have hD3 := Drew.pre ((Ext.refl _).alloc _) hd.drew
    have hO3 := (H2.out.1.ext ((Ext.refl _).alloc _)).drawn hd.grown hg
    have hst := hO3.setAt (k := 0) (j := 0) (x := nthS l 0) (x' := u) (u := .string u) (by rw [nthS_eq hl0]; exact List.getElem?_eq_getElem hl0) (by decide) rfl
    have hf := hO3.1.frozenAt 0
    have hbl3 := (first_of hO3 hl0).2
    have H3 := Lib.hid (And.intro (show OwnG layS 9 (w3.setCell ⟨g1, 0, none⟩ (.string u)) w.heap.size (some ⟨g1, 0, none⟩) l.length c1 (l.set 0 u) from hst.1) ((H2.out.2.1.trans hD3).setCell hgB (by omega) 0 (.string u)))
    clear hd hz1 hD3 hO3 hst hc0 hbl
    go_wp2
    go_ret
    exact ⟨some ⟨g1, 0, none⟩, c1, l.set 0 u, by rw [List.length_set]; rfl, by rw [List.length_set]; omega, set0_ok H2.out.2.2 (by omega), by rw [List.length_set]; exact H3.out.1, H3.out.2⟩
  by_cases y2 : y = 2
  · subst y2
    go_wp2
    go_ret
    exact ⟨some ⟨g1, 0, none⟩, c1, l.take 0, rfl, by simp, by simp, H2.out.1.cut (Nat.zero_le _), H2.out.2.1⟩
  by_cases y3 : y = 3
  · subst y3
    clear hc0 hbl hs0 hgB hli hle0
    go_wp2
    go_loopw [3, 4] (fun v i wr => ∃ (l : List ByteArray) (a1 : Option Addr) (c1 k : Nat), v = .slice a1 l.length c1 ∧ i = .int .i64 k ∧ k ≤ 26 ∧ l.length ≤ 42 ∧ (∀ s ∈ l, s.size ≤ 68) ∧ OwnG layS 9 wr w.heap.size a1 l.length c1 l ∧ Drew w g wr) (fun _ i _ => 26 - (intOf i).toNat)
    case atStart => exact ⟨l, _, _, 0, rfl, rfl, by decide, by omega, H2.out.2.2, H2.out.1, H2.out.2.1⟩
    case round =>
      obtain ⟨l, a1, c1, k, rfl, rfl, hk, hl42, hl68, ho, hD⟩ := hrel
      have HO := Lib.hid (And.intro hl68 (And.intro ho hD))
      clear hl68 ho hD H2
      go_wp2_with fail
      refine (l01Next_any _ _ _ HO.out.2.2.1 (by omega)).mono ?_
      rintro e w3 ⟨z, rfl, hz0, hz1, hd⟩
      have H3 := Lib.hid (And.intro (HO.out.2.1.drawn hd.grown hg) (HO.out.2.2.trans hd.drew))
      clear hd
      have hzw : IntKind.i64.wrap (40 + z) = 40 + z := IntWalk.i64_in _ (by omega)
      by_cases hlz : (l.length : Int) < 40 + z
      · by_cases hk26 : k < 26
        · have hki : (k : Int) < 26 := by omega
          have hl41 : l.length ≤ 41 := by omega
          have hLQ := Lib.hid (letQ_size k)
          go_wp2_with (first | (at_builtin; refine wpList_appG layS rfl _ _ 24 9 rfl Tryz.underlying24 (.string ⟨#[]⟩) 16 Tryz.info_string rfl (by decide) w.heap.size _ l.length _ l rfl (H3.out.1.alloc _) _ 1 _ [letQ k] rfl (RdG.new1 layS _ _ _ rfl _) (by omega) (by have := H3.out.2.size; simp; omega) ?_; intro a2 c2 w5 hown hgrow; have HE := Lib.hid (And.intro hown (draw_grow H3.out.1.1 H3.out.2.1 hg (Nat.le_refl _) H3.out.2.2 hgrow)); clear hown hgrow))
          go_roundw
          case rel => exact ⟨l ++ [letQ k], a2, c2, k + 1, by simp, by go_num, by omega, by simp; omega, fun s hs => (List.mem_append.1 hs).elim (HO.out.1 s) (fun h => by rw [List.mem_singleton.1 h]; exact hLQ.out), by simpa using HE.out.1, HE.out.2⟩
          case measure => simp [intOf]; omega
        · have hki : ¬ (k : Int) < 26 := by omega
          go_wp2
          go_ret
          exact ⟨a1, c1, l, rfl, hl42, HO.out.1, H3.out.1, H3.out.2⟩
      · go_wp2
        go_ret
        exact ⟨a1, c1, l, rfl, hl42, HO.out.1, H3.out.1, H3.out.2⟩
  · go_wp2
    go_ret
    exact ⟨some ⟨g1, 0, none⟩, c1, l, rfl, by omega, H2.out.2.2, H2.out.1, H2.out.2.1⟩

def letA : List ByteArray := [⟨#[97]⟩, ⟨#[98]⟩, ⟨#[100]⟩, ⟨#[101]⟩, ⟨#[102]⟩, ⟨#[103]⟩, ⟨#[104]⟩, ⟨#[105]⟩, ⟨#[107]⟩, ⟨#[108]⟩, ⟨#[109]⟩, ⟨#[110]⟩, ⟨#[111]⟩, ⟨#[114]⟩, ⟨#[115]⟩, ⟨#[116]⟩, ⟨#[119]⟩, ⟨#[121]⟩, ⟨#[99]⟩, ⟨#[115, 104]⟩, ⟨#[97, 101]⟩]
theorem letA_short : ∀ s ∈ letA, s.size ≤ 68 := by decide

set_option maxRecDepth 100000 in
set_option maxHeartbeats 4000000 in
theorem l06Letters_any (g : Nat) (w : World) (hs : Src w g) :
    Calls Tryz.prog 31 #[.pointer (some ⟨g, 0, none⟩)] w (DrewA 42 w g) := by
  have hg := hs.lt
  have HS := Lib.hid hs
  clear hs
  go_enter Tryz.func31, Tryz.ntmps31
  go_wp2_with fail
  refine (l01Next_any _ _ _ HS.out (by omega)).mono ?_
  rintro e w1 ⟨y, rfl, hy0, hy1, hd⟩
  have H1 := Lib.hid hd.drew
  clear hd
  by_cases y0 : y = 0
  · subst y0
    go_wp2_with fail
    refine (l03Draw_any _ _ H1.out.1).mono ?_
    rintro e w2 ⟨a2, c2, ss, rfl, hl, h68, o2, d2⟩
    have H2 := Lib.hid (And.intro (o2.mono H1.out.size) (H1.out.trans d2))
    clear o2 d2
    go_wp2
    go_ret
    exact ⟨a2, c2, ss, rfl, hl, h68, H2.out.1, H2.out.2⟩
  · have hsz := H1.out.size
    have hg1 := H1.out.1.lt
    have HL := Lib.hid (And.intro (OwnG.lit layS 9 w1 (Nat.le_refl _) letA #[.string ⟨#[97]⟩, .string ⟨#[98]⟩, .string ⟨#[100]⟩, .string ⟨#[101]⟩, .string ⟨#[102]⟩, .string ⟨#[103]⟩, .string ⟨#[104]⟩, .string ⟨#[105]⟩, .string ⟨#[107]⟩, .string ⟨#[108]⟩, .string ⟨#[109]⟩, .string ⟨#[110]⟩, .string ⟨#[111]⟩, .string ⟨#[114]⟩, .string ⟨#[115]⟩, .string ⟨#[116]⟩, .string ⟨#[119]⟩, .string ⟨#[121]⟩, .string ⟨#[99]⟩, .string ⟨#[115, 104]⟩, .string ⟨#[97, 101]⟩] rfl (by decide)) (H1.out.ext ((Ext.refl w1).alloc (.cells #[.string ⟨#[97]⟩, .string ⟨#[98]⟩, .string ⟨#[100]⟩, .string ⟨#[101]⟩, .string ⟨#[102]⟩, .string ⟨#[103]⟩, .string ⟨#[104]⟩, .string ⟨#[105]⟩, .string ⟨#[107]⟩, .string ⟨#[108]⟩, .string ⟨#[109]⟩, .string ⟨#[110]⟩, .string ⟨#[111]⟩, .string ⟨#[114]⟩, .string ⟨#[115]⟩, .string ⟨#[116]⟩, .string ⟨#[119]⟩, .string ⟨#[121]⟩, .string ⟨#[99]⟩, .string ⟨#[115, 104]⟩, .string ⟨#[97, 101]⟩] 9))))
    go_wp2_with fail
    refine (l01Next_any _ _ _ HL.out.2.1 (by omega)).mono ?_
    rintro e wd ⟨x, rfl, hx0, hx1, hd⟩
    obtain ⟨j, rfl, hj⟩ := pick_nat 21 rfl (by omega) hx0 hx1
    have H2 := Lib.hid (And.intro (HL.out.1.drawn hd.grown hg1) (HL.out.2.trans hd.drew))
    clear hd hx1 HL
    generalize w1.heap.size = g1 at H2 hsz hg1 ⊢
    have hll : letA.length = 21 := rfl
    have hfr := H2.out.1.rd.front (Nat.le_of_lt hj)
    have hbk : RdG layS wd (some ⟨g1, j, none⟩) (21 - j) (letA.drop j) := by have := H2.out.1.rd.tail (Nat.le_of_lt hj); rw [hll] at this; simpa [layS] using this
    have hck2 : ¬ 21 = j := by omega
    have p0 : (0 : Int) ≤ j := by omega
    have p1 : (j : Int) ≤ 21 := by omega
    go_wp2
    go_region_law (first | (refine step_appG layS rfl _ _ 24 9 rfl Tryz.underlying24 (.string ⟨#[]⟩) 16 Tryz.info_string rfl (by decide) wd.heap.size _ (21 - j) _ (letA.drop j) rfl hown _ j _ (letA.take j) rfl (hfr.ext hg5) (by omega) hg5.size ?_; intro a6 c6 w6 hown6 hgrow6; have hg6 := hg5.grown hgrow6 (fun k e => (hown.1.lt k e).1)) | (have ho0 := (OwnG.lit layS 9 wd (Nat.le_refl wd.heap.size) [] #[] rfl (by simp)).ext (Ext.refl _).drew; refine step_appG layS rfl _ _ 24 9 rfl Tryz.underlying24 (.string ⟨#[]⟩) 16 Tryz.info_string rfl (by decide) wd.heap.size _ 0 _ [] rfl ho0 _ (21 - j) _ (letA.drop j) rfl (hbk.ext (((Ext.refl wd).alloc (.cells #[] 9)).drew)) (by omega) (by first | omega | (simp only [World.size_alloc, World.size_drew]; omega)) ?_; intro a5 c5 w5 hown hgrow; simp only [Nat.zero_add, List.nil_append] at hown; have hg5 := (((Ext.refl wd).alloc (.cells #[] 9)).drew).grown hgrow (fun k e => (ho0.1.lt k e).1)))
    all_goals
      have HF := Lib.hid (And.intro hown6 hg6)
      clear hown6 hg6
      go_wp2
      go_ret
      refine ⟨a6, c6, letA.drop j ++ letA.take j, show Ending.returned (.slice a6 (21 - j + j) c6) = .returned (.slice a6 (letA.drop j ++ letA.take j).length c6) by rw [rot_len, hll, show 21 - j + j = 21 from by omega], by rw [rot_len, hll]; decide, rot_mem letA_short, ?_, H2.out.2.ext HF.out.2⟩
      have := HF.out.1.mono H2.out.2.size
      rw [rot_len, hll]
      rwa [show 21 - j + j = 21 from by omega] at this

set_option maxRecDepth 100000 in
set_option maxHeartbeats 4000000 in
theorem l06Ignored_any (g : Nat) (a : Option Addr) (n c : Nat) (w : World) (hs : Src w g) (hn : n ≤ 100) :
    Calls Tryz.prog 21 #[.pointer (some ⟨g, 0, none⟩), .slice a n c] w fun e w' => ∃ a2 c2 zs, e = .returned (.slice a2 zs.length c2) ∧ OwnI w' w.heap.size a2 zs.length c2 zs ∧ Drew w g w' := by
  have hg := hs.lt
  have hmx : max (1 : Int) n = ((max 1 n : Nat) : Int) := by omega
  have hmx2 : max 1 n ≤ 100 := by omega
  have HS := Lib.hid hs
  clear hs
  go_enter Tryz.func21, Tryz.ntmps21
  go_wp2_with fail
  refine (l01Next_any _ _ _ (HS.out.ext ((Ext.refl _).alloc _)) (by omega)).mono ?_
  rintro e w1 ⟨x, rfl, hx0, hx1, hd⟩
  have HL := Lib.hid (And.intro (Drew.pre ((Ext.refl _).alloc _) hd.drew) ((show OwnI (w.alloc (.cells #[] 2)) w.heap.size (some ⟨w.heap.size, 0, none⟩) 0 0 [] from ⟨OwnI.lit0 w (Nat.le_refl _), by decide⟩).drawn hd.grown hg))
  clear hd
  have hxw : IntKind.i64.wrap (x - 1) = x - 1 := IntWalk.i64_in _ (by omega)
  go_wp2
  go_loopw [5, 6] (fun v i wr => ∃ (l : List Int) (a1 : Option Addr) (c1 : Nat) (k : Int), v = .slice a1 l.length c1 ∧ i = .int .i64 k ∧ -1 ≤ k ∧ l.length + k ≤ 3 ∧ l.length ≤ 5 ∧ OwnI wr w.heap.size a1 l.length c1 l ∧ Drew w g wr) (fun _ i _ => (intOf i).toNat)
  case atStart => exact ⟨[], _, _, x - 1, rfl, rfl, by omega, by simp; omega, by simp, HL.out.2, HL.out.1⟩
  case round =>
    obtain ⟨l, a1, c1, k, rfl, rfl, hk1, hlk, hl5, ho, hD⟩ := hrel
    have HO := Lib.hid (And.intro ho hD)
    clear ho hD HL
    by_cases hk : 0 < k
    · go_wp2_with fail
      refine (l01Next_any _ _ _ HO.out.2.1 (by omega)).mono ?_
      rintro e w2 ⟨z, rfl, hz0, hz1, hd⟩
      have H2 := Lib.hid (And.intro (HO.out.1.drawn hd.grown hg) (HO.out.2.trans hd.drew))
      clear hd
      have hkw : IntKind.i64.wrap (k - 1) = k - 1 := IntWalk.i64_in _ (by omega)
      go_wp2_with (first | (at_builtin; refine wpList_appI rfl _ _ rfl w.heap.size _ l.length l rfl (H2.out.1.alloc _) _ 1 _ [z] rfl (RdI.new1 _ _ _) (by omega) (by have := H2.out.2.size; simp; omega) ?_; intro a2 c2 w5 hown hgrow; have HE := Lib.hid (And.intro hown (show Drew w g w5 from draw_grow H2.out.1.1 H2.out.2.1 hg (Nat.le_refl _) H2.out.2.2 hgrow)); clear hown hgrow))
      go_roundw
      case rel => exact ⟨l ++ [z], a2, c2, k - 1, by simp, rfl, by omega, by simp; omega, by simp; omega, by simpa using HE.out.1, HE.out.2⟩
      case measure => simp [intOf]; omega
    · go_wp2_with fail
      refine (l01Next_any _ _ _ HO.out.2.1 (by omega)).mono ?_
      rintro e w2 ⟨y, rfl, hy0, hy1, hd⟩
      have H2 := Lib.hid (And.intro (HO.out.1.drawn hd.grown hg) (HO.out.2.trans hd.drew))
      clear hd
      by_cases y0 : y = 0
      · subst y0
        have hg2 := H2.out.2.1.lt
        go_wp2_with fail
        refine (l01Pick_any _ _ _ _ [-1, (n : Int)] _ (H2.out.2.1.ext ((Ext.refl _).alloc _)) (RdI.lits w2 [-1, (n : Int)] _ rfl (by simp)) (by simp) (by rintro ad e; cases e; simp only; omega)).mono ?_
        rintro e w3 ⟨z, rfl, hz, hd⟩
        have H3 := Lib.hid (And.intro ((show OwnI (w2.alloc (.cells #[.int .i64 (-1), .int .i64 n] 2)) w.heap.size a1 l.length c1 l from H2.out.1.ext ((Ext.refl _).alloc _)).drawn hd.grown hg) (H2.out.2.trans (Drew.pre ((Ext.refl _).alloc _) hd.drew)))
        clear hd hz
        go_wp2_with (first | (at_builtin; refine wpList_appI rfl _ _ rfl w.heap.size _ l.length l rfl (H3.out.1.alloc _) _ 1 _ [z] rfl (RdI.new1 _ _ _) (by omega) (by have := H3.out.2.size; simp; omega) ?_; intro a2 c2 w5 hown hgrow; have HE := Lib.hid (And.intro hown (show Drew w g w5 from draw_grow H3.out.1.1 H3.out.2.1 hg (Nat.le_refl _) H3.out.2.2 hgrow)); clear hown hgrow))
        go_ret
        exact ⟨a2, c2, l ++ [z], by rw [List.length_append]; rfl, by simpa using HE.out.1, HE.out.2⟩
      · go_wp2
        go_ret
        exact ⟨a1, c1, l, rfl, H2.out.1, H2.out.2⟩

end Go.Proofs.YtdicjpkcgeofjaaGreatDoor

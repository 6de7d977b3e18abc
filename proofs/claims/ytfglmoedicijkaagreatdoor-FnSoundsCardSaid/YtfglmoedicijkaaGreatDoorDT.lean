/-
  The reference's draws of sound tables, words and lists of words.
-/
import Derived.Test.YtfglmoedicijkaaGreatDoorDS
import Derived.Test.YtfglmoedicijkaaGreatDoorOC
namespace Go.Proofs.YtfglmoedicijkaaGreatDoor
open Go.RowKit

theorem set_ints2 (zs : List Int) (k : Nat) (y : Int) : (zs.map (Value.int .i64)).set k (.int .i64 y) = (zs.set k y).map (Value.int .i64) := by rw [List.map_set]

/-- One element of what the call owns is written. -/
theorem OwnI.store2 {w : World} {B n c k : Nat} {a : Option Addr} {zs : List Int} (h : OwnI w B a n c zs) (hk : k < n) (y : Int) :
    ∃ g, a = some ⟨g, 0, none⟩ ∧ B ≤ g ∧ (∃ u, w.cell? ⟨g, k, none⟩ = some u) ∧ w.frozen? ⟨g, k, none⟩ = false ∧ OwnI (w.setCell ⟨g, k, none⟩ (.int .i64 y)) B a n c (zs.set k y) := by
  rcases own_addr h.1 with rfl | ⟨g, rfl⟩
  · have := h.rd.isNone.1
    omega
  · refine ⟨g, rfl, (h.1.lt g rfl).1, own_old h.1 k hk, h.1.frozenAt k, ?_, h.2⟩
    have := (h.1.stored k (.int .i64 y)).1
    rwa [set_ints2] at this
theorem OwnI.litN (w : World) (zs : List Int) (xs : Array Value) (h : xs.toList = zs.map (Value.int .i64)) (hn : zs.length ≤ 100) : OwnI (w.alloc (.cells xs 2)) w.heap.size (some ⟨w.heap.size, 0, none⟩) zs.length zs.length zs :=
  ⟨by
    have := World.ownsRow_lit (e := 2) (size := 1) w xs zs.length (Nat.le_refl _) (by unfold maxLen; omega) (by rw [← Array.length_toList, h]; simp)
    rwa [h] at this, by omega⟩
theorem OwnI.cut {w : World} {B g n c m : Nat} {zs : List Int} (h : OwnI w B (some ⟨g, 0, none⟩) n c zs) (hm : m ≤ n) : OwnI w B (some ⟨g, 0, none⟩) m c (zs.take m) := by
  have := own_cut h.1 hm
  rw [Nat.mul_one, ← List.map_take] at this
  exact ⟨this, Nat.le_trans hm h.2⟩
theorem own_off {w : World} {B e sz n c m b k : Nat} {a : Option Addr} {xs : List Value} {u : Value} (h : w.ownsRow B e sz (.slice a n c) m xs) (hne : ∀ q, a = some q → q.block ≠ b) : (w.setCell ⟨b, k, none⟩ u).ownsRow B e sz (.slice a n c) m xs := by
  refine ⟨h.1, ?_⟩
  rcases h.2 with hn | ⟨g2, cap, cur, hv, hbg, hgg, rest⟩
  · exact .inl hn
  · refine .inr ⟨g2, cap, cur, hv, hbg, ?_, rest⟩
    cases hv
    rw [Below.heap_setCell _ _ _ _ (hne ⟨g2, 0, none⟩ rfl)]
    exact hgg
theorem own_below {w : World} {B e sz n c m : Nat} {a : Option Addr} {xs : List Value} (h : w.ownsRow B e sz (.slice a n c) m xs) : ∀ q, a = some q → q.block < w.heap.size := fun q hq => by
  rcases own_addr h with rfl | ⟨g, rfl⟩
  · cases hq
  · cases hq; exact (h.lt g rfl).2
def tab26 : List Int := [0, 1, 2, 3, 0, 1, 2, 0, 0, 2, 2, 4, 5, 5, 0, 1, 2, 6, 2, 3, 0, 1, 0, 2, 0, 2]
def DrewTab (w : World) (g : Nat) (e : Ending) (w' : World) : Prop := ∃ a n c zs, e = .returned (.slice a n c) ∧ n ≤ 26 ∧ OwnI w' w.heap.size a n c zs ∧ Drew w g w'

set_option maxRecDepth 100000 in
set_option maxHeartbeats 2000000 in
theorem l07Table_any (g : Nat) (w : World) (hs : Src w g) :
    Calls Tryz.prog 39 #[.pointer (some ⟨g, 0, none⟩)] w (DrewTab w g) := by
  have hg := hs.lt
  have HS := Lib.hid hs
  clear hs
  go_enter Tryz.func39, Tryz.ntmps39
  go_wp2_with fail
  refine (l01Next_any _ _ _ (HS.out.ext ((Ext.refl _).alloc _)) (by omega)).mono ?_
  rintro e w1 ⟨x, rfl, hx0, hx1, hd⟩
  have H1 := Lib.hid (And.intro ((OwnI.litN w tab26 _ rfl (by decide)).drawn hd.grown hg) (Drew.pre ((Ext.refl _).alloc _) hd.drew))
  clear hd
  go_wp2
  go_loopw [4] (fun i wr => ∃ (k : Nat) (zs : List Int), i = .int .i64 k ∧ k ≤ 3 ∧ OwnI wr w.heap.size (some ⟨w.heap.size, 0, none⟩) 26 26 zs ∧ Drew w g wr) (fun i _ => (intOf i).toNat)
  case atStart =>
    obtain ⟨k, rfl⟩ := Int.eq_ofNat_of_zero_le hx0
    exact ⟨k, _, rfl, by omega, H1.out.1, H1.out.2⟩
  case round =>
    obtain ⟨k, zs, rfl, hk3, ho, hD⟩ := hrel
    have HO := Lib.hid (And.intro ho hD)
    clear ho hD
    by_cases hk : 0 < k
    · go_wp2_with fail
      refine (l01Next_any _ _ _ HO.out.2.1 (by omega)).mono ?_
      rintro e w2 ⟨y, rfl, hy0, hy1, hd⟩
      have H2 := Lib.hid (And.intro (HO.out.1.drawn hd.grown hg) (HO.out.2.trans hd.drew))
      clear hd
      go_wp2_with fail
      refine (l01Next_any _ _ _ H2.out.2.1 (by omega)).mono ?_
      rintro e w3 ⟨z, rfl, hz0, hz1, hd⟩
      have H3 := Lib.hid (And.intro (H2.out.1.drawn hd.grown hg) (H2.out.2.trans hd.drew))
      clear hd
      obtain ⟨j, rfl⟩ := Int.eq_ofNat_of_zero_le hy0
      have hj : j < 26 := by omega
      have hji : (j : Int) < 26 := by omega
      obtain ⟨g', e', hg', ⟨u, hu⟩, hf, hst⟩ := OwnI.store2 H3.out.1 (k := j) hj z
      cases e'
      have HT := Lib.hid (And.intro hst (H3.out.2.setCell (Nat.le_refl _) hg j (.int .i64 z)))
      clear hst hy1 hz1
      go_wp2
      go_roundw
      case rel => exact ⟨k - 1, _, by rw [show ((k : Int) - 1) = ((k - 1 : Nat) : Int) from by omega], by omega, HT.out.1, HT.out.2⟩
      case measure => simp [intOf]; omega
    · go_wp2_with fail
      refine (l01Next_any _ _ _ HO.out.2.1 (by omega)).mono ?_
      rintro e w2 ⟨y, rfl, hy0, hy1, hd⟩
      have H2 := Lib.hid (And.intro (HO.out.1.drawn hd.grown hg) (HO.out.2.trans hd.drew))
      clear hd
      by_cases y0 : y = 0
      · subst y0
        go_wp2
        go_ret
        exact ⟨_, _, _, _, rfl, by decide, H2.out.1.cut (by decide), H2.out.2⟩
      by_cases y1 : y = 1
      · subst y1
        have hsz := H2.out.2.size
        go_wp2_with fail
        refine (l01Pick_any _ _ _ _ _ _ (H2.out.2.1.ext ((Ext.refl _).alloc _)) (RdI.lits w2 [-1, 10] _ rfl (by decide)) (by decide) (by rintro ad e; cases e; simp only; omega)).mono ?_
        rintro e w3 ⟨z, rfl, hz, hd⟩
        have H3 := Lib.hid (And.intro ((H2.out.1.ext ((Ext.refl _).alloc _)).drawn hd.grown hg) (H2.out.2.trans (Drew.pre ((Ext.refl _).alloc _) hd.drew)))
        clear hd
        obtain ⟨g', e', hg', ⟨u, hu⟩, hf, hst⟩ := OwnI.store2 H3.out.1 (k := 5) (by decide) z
        cases e'
        have HT := Lib.hid (And.intro hst (H3.out.2.setCell (Nat.le_refl _) hg 5 (.int .i64 z)))
        clear hst
        go_wp2
        go_ret
        exact ⟨_, _, _, _, rfl, by decide, HT.out.1, HT.out.2⟩
      · go_wp2
        go_ret
        exact ⟨_, _, _, _, rfl, by decide, H2.out.1, H2.out.2⟩

set_option maxRecDepth 100000 in
set_option maxHeartbeats 1000000 in
theorem l01DrawWord_any (g : Nat) (w : World) (hs : Src w g) :
    Calls Tryz.prog 46 #[.pointer (some ⟨g, 0, none⟩)] w (DrewS 51 w g) := by
  have HS := Lib.hid hs
  clear hs
  go_enter Tryz.func46, Tryz.ntmps46
  go_wp2_with fail
  refine (l01Next_any _ _ _ HS.out (by omega)).mono ?_
  rintro e w1 ⟨y, rfl, hy0, hy1, hd⟩
  have H1 := Lib.hid hd.drew
  clear hd
  have hg1 := H1.out.1.lt
  by_cases y0 : y = 0
  · subst y0
    go_wp2_with fail
    refine (l01Next_any _ _ _ (H1.out.1.ext ((Ext.refl _).alloc _)) (by omega)).mono ?_
    rintro e w3 ⟨z, rfl, hz0, hz1, hd⟩
    obtain ⟨j, rfl⟩ := Int.eq_ofNat_of_zero_le hz0
    have hj : j < 6 := by omega
    have hji : (j : Int) < 6 := by omega
    obtain ⟨u, hc, hu⟩ := Lits.new (n := 6) hd.drew hg1 (by kernel_rfl) rfl j hj
    have H3 := Lib.hid (H1.out.trans (Drew.pre ((Ext.refl _).alloc _) hd.drew))
    clear hd hz1
    go_wp2
    go_ret
    exact ⟨_, rfl, by omega, H3.out⟩
  · go_wp2_with fail
    refine (l01Good_any _ _ H1.out.1).mono ?_
    rintro e w3 ⟨s, rfl, hsz, hd⟩
    have H3 := Lib.hid (H1.out.trans hd)
    clear hd
    go_wp2
    go_ret
    exact ⟨_, rfl, hsz, H3.out⟩

def shortL (ss : List ByteArray) : Prop := (∀ s ∈ ss, s.size ≤ 68) ∧ (nthS ss 0).size ≤ 51
theorem shortL.snoc {l : List ByteArray} {s : ByteArray} (h : shortL l) (hs : s.size ≤ 68) (h0 : l.length = 0 → s.size ≤ 51) : shortL (l ++ [s]) := by
  refine ⟨fun z hz => ?_, ?_⟩
  · rcases List.mem_append.1 hz with k | k
    · exact h.1 z k
    · rw [List.mem_singleton.1 k]; exact hs
  · cases l with
    | nil => exact h0 rfl
    | cons x xs => exact h.2
def DrewL (w : World) (g : Nat) (e : Ending) (w' : World) : Prop := ∃ a c ss, e = .returned (.slice a ss.length c) ∧ ss.length ≤ 21 ∧ (∀ s ∈ ss, s.size ≤ 68) ∧ OwnG layS 9 w' w.heap.size a ss.length c ss ∧ Drew w g w'


set_option maxRecDepth 100000 in
set_option maxHeartbeats 4000000 in
theorem l07List_any (g : Nat) (w : World) (hs : Src w g) :
    Calls Tryz.prog 44 #[.pointer (some ⟨g, 0, none⟩)] w (DrewL w g) := by
  have hg := hs.lt
  have HS := Lib.hid hs
  clear hs
  go_enter Tryz.func44, Tryz.ntmps44
  go_wp2_with fail
  refine (l01Next_any _ _ _ (HS.out.ext ((Ext.refl _).alloc _)) (by omega)).mono ?_
  rintro e w1 ⟨x, rfl, hx0, hx1, hd⟩
  have HL := Lib.hid (And.intro (Drew.pre ((Ext.refl _).alloc _) hd.drew) ((OwnG.lit layS 9 w (Nat.le_refl _) [] #[] rfl (by simp)).drawn hd.grown hg))
  clear hd
  go_wp2
  go_loopw [3, 4, 5] (fun v i _ wr => ∃ (l : List ByteArray) (a1 : Option Addr) (c1 k : Nat), v = .slice a1 l.length c1 ∧ i = .int .i64 k ∧ l.length + k ≤ 6 ∧ shortL l ∧ OwnG layS 9 wr w.heap.size a1 l.length c1 l ∧ Drew w g wr) (fun _ i _ _ => (intOf i).toNat)
  case atStart =>
    obtain ⟨k, rfl⟩ := Int.eq_ofNat_of_zero_le hx0
    exact ⟨[], _, _, k, rfl, rfl, by simp; omega, ⟨by simp, by decide⟩, HL.out.2, HL.out.1⟩
  case round =>
    obtain ⟨l, a1, c1, k, rfl, rfl, hlk, hls, ho, hD⟩ := hrel
    have HB := Lib.hid hls
    clear hls
    by_cases hk : 0 < k
    · have HO := Lib.hid (And.intro ho hD)
      clear ho hD
      go_wp2_with fail
      refine (l01DrawWord_any _ _ HO.out.2.1).mono ?_
      rintro e w2o ⟨s, rfl, hsz, hd⟩
      have HD := Lib.hid (And.intro (HO.out.1.drawn hd.2 hg) (HO.out.2.trans hd))
      clear hd
      by_cases hl : 0 < l.length
      · have hli : (0 : Int) < l.length := by omega
        go_wp2_with fail
        refine (l01Next_any _ _ _ HD.out.2.1 (by omega)).mono ?_
        rintro e w2 ⟨y, rfl, hy0, hy1, hd⟩
        replace HD := Lib.hid (And.intro (HD.out.1.drawn hd.grown hg) (HD.out.2.trans hd.drew))
        clear hd
        cases hyy : (y == 0)
        · go_wp2_with (first | (at_builtin; refine wpList_appG layS rfl _ _ 29 9 rfl Tryz.underlying29 (.string ⟨#[]⟩) 16 Tryz.info_string rfl (by decide) w.heap.size _ l.length _ l rfl (HD.out.1.alloc _) _ 1 _ [_] rfl (RdG.new1 layS _ _ _ rfl _) (by omega) (by have := HD.out.2.size; simp; omega) ?_; intro a2 c2 w5 hown hgrow; have HE := Lib.hid (And.intro hown (draw_grow HD.out.1.1 HD.out.2.1 hg (Nat.le_refl _) HD.out.2.2 hgrow)); clear hown hgrow))
          go_roundw
          case rel => exact ⟨l ++ [s], a2, c2, k - 1, by simp, by rw [show ((k : Int) - 1) = ((k - 1 : Nat) : Int) from by omega], by simp; omega, HB.out.snoc (by omega) (fun h => by omega), by simpa using HE.out.1, HE.out.2⟩
          case measure => simp [intOf]; omega
        · have h51 := HB.out.2
          obtain ⟨b, o, rfl, hbl, hA⟩ := HD.out.1.rd.at hl
          have hbB := (HD.out.1.1.lt b (by simp [Value.ownBlock])).1
          have hbg : b ≠ g := by omega
          have hc0 := hA 0 _ (List.getElem?_eq_getElem hl) 0 _ rfl
          rw [← nthS_eq hl] at hc0
          simp only [layS, Nat.zero_mul, Nat.add_zero] at hc0
          have hg2 := HD.out.2.1.lt
          clear hA
          go_wp2
          refine wp_region_any (by kernel_rfl) ?_
          try (change wpAny _ _ _ _ _ _ _ (World.drew _))
          refine takeYes 0 23 ?v1 rfl rfl (by kernel_rfl) (by kernel_rfl) (by kernel_rfl) (fun _ _ _ _ h => h) (by kernel_rfl) ?y1 ?r1
          case y1 => intro w; go_simp; first | done | with_reducible rfl
          simp only [Act.put, List.setIfInBounds_toArray, List.set_cons_zero, List.set_cons_succ]
          refine takeYes 1 24 ?v2 rfl rfl (by kernel_rfl) (by kernel_rfl) (by kernel_rfl) (fun _ _ _ _ h => h) (by kernel_rfl) ?y2 ?r2
          case y2 => intro w; go_simp; first | done | with_reducible rfl
          simp only [Act.put, List.setIfInBounds_toArray, List.set_cons_zero, List.set_cons_succ]
          refine takeYes 4 27 ?v3 rfl rfl (by kernel_rfl) (by kernel_rfl) (by kernel_rfl) (fun _ _ _ _ h => h) (by kernel_rfl) ?y3 ?r3
          case y3 => intro w; go_simp; first | done | with_reducible rfl
          simp only [Act.put, List.setIfInBounds_toArray, List.set_cons_zero, List.set_cons_succ]
          refine wpAny_ready (rs := [2, 3, 5]) (by kernel_rfl) (by simp) ?_
          refine AllReady.cons rfl (fun K hK => ?_) (AllReady.cons rfl (fun K hK => ?_) (AllReady.cons rfl (fun K hK => ?_) AllReady.nil))
          · go_simp
            refine hK _ _ ?_
            clear hK K
            try simp only [Act.put, List.setIfInBounds_toArray, List.set_cons_zero, List.set_cons_succ]
            refine wpAny_ready (rs := [3, 5]) (by kernel_rfl) (by simp) ?_
            refine AllReady.cons rfl (fun K hK => ?_) (AllReady.cons rfl (fun K hK => ?_) AllReady.nil)
            · go_simp
              refine hK _ _ ?_
              clear hK K
              try (obtain ⟨u, hc1, hu⟩ := short_at (xs := #[.string ⟨#[]⟩, .string ⟨#[115]⟩, .string ⟨#[101]⟩, .string ⟨#[116, 104]⟩]) (by kernel_rfl) (k := j) hj; have hc : (w3.alloc (.cells #[.string ⟨#[]⟩, .string ⟨#[115]⟩, .string ⟨#[101]⟩, .string ⟨#[116, 104]⟩] 9)).cell? ⟨w3.heap.size, j, none⟩ = some (.string u) := (World.cell?_alloc_at _ _ _ _ rfl).trans hc1; have hcd := (Below.cell ((Ext.refl w3).alloc (.cells #[.string ⟨#[]⟩, .string ⟨#[115]⟩, .string ⟨#[101]⟩, .string ⟨#[116, 104]⟩] 9)) (p := ⟨b, o, none⟩) hb3).trans hcc; have hxq := (Ext.refl w3).alloc (.cells #[.string ⟨#[]⟩, .string ⟨#[115]⟩, .string ⟨#[101]⟩, .string ⟨#[116, 104]⟩] 9); have p1 : ¬ 9223372036854775807 < (nthS l 0).size + u.size := (by omega); replace HO4 := Lib.hid (HO4.out.ext hxq); replace H4 := Lib.hid (H4.out.ext hxq); generalize w3.alloc (.cells #[.string ⟨#[]⟩, .string ⟨#[115]⟩, .string ⟨#[101]⟩, .string ⟨#[116, 104]⟩] 9) = w3q at HO4 H4 hc hcd hxq ⊢)
              try simp only [Act.put, List.setIfInBounds_toArray, List.set_cons_zero, List.set_cons_succ]
              refine wpAny_ready (rs := [5]) (by kernel_rfl) (by simp) ?_
              refine AllReady.cons rfl (fun K hK => ?_) AllReady.nil
              go_simp
              refine (l01Next_any _ _ _ (by first | exact (HD.out.2.1.ext (Ext.refl _).drew) | exact (HD.out.2.1.ext ((Ext.refl _).drew.alloc _)) | exact (HD.out.2.1.ext ((Ext.refl _).alloc _).drew)) (by omega)).mono ?_
              rintro e w3 ⟨z, rfl, hz0, hz1, hd3⟩
              obtain ⟨j, rfl⟩ := Int.eq_ofNat_of_zero_le hz0
              have hj : j < 4 := by omega
              have hji : (j : Int) < 4 := by omega
              have hd4 : Drew w2 g w3 := by first | exact Drew.pre (Ext.refl _).drew hd3.drew | exact Drew.pre ((Ext.refl _).alloc _).drew hd3.drew
              have H4 := Lib.hid (HD.out.2.trans hd4)
              have HO4 := Lib.hid (HD.out.1.drawn hd4.2 hg)
              have hcc := (hd4.cell (p := ⟨b, o, none⟩) hbl hbg).trans hc0
              have hb3 : b < w3.heap.size := Nat.lt_of_lt_of_le hbl hd4.size
              clear hd4
              try (obtain ⟨u, hc, hu⟩ := Lits.new (n := 4) (Drew.pre (Ext.refl _).drew hd3.drew) hg2 (by kernel_rfl) rfl j hj; (have p1 : ¬ 9223372036854775807 < (nthS l 0).size + u.size := (by omega)))
              clear hd3 hz1
              go_wp2_with fail
              try simp only [Act.put, List.setIfInBounds_toArray, List.set_cons_zero, List.set_cons_succ]
              refine takeYes 6 29 ?v4 rfl rfl (by kernel_rfl) (by kernel_rfl) (by kernel_rfl) (fun _ _ _ _ h => h) (by kernel_rfl) ?y4 ?r4
              case y4 => intro w; go_simp; first | done | with_reducible rfl
              simp only [Act.put, List.setIfInBounds_toArray, List.set_cons_zero, List.set_cons_succ]
              refine wpAny_ready (rs := [7]) (by kernel_rfl) (by simp) ?_
              refine AllReady.cons rfl (fun K hK => ?_) AllReady.nil
              go_simp
              refine hK _ _ ?_
              clear hK K
              try simp only [Act.put, List.setIfInBounds_toArray, List.set_cons_zero, List.set_cons_succ]
              refine takeYes 8 31 ?v5 rfl rfl (by kernel_rfl) (by kernel_rfl) (by kernel_rfl) (fun _ _ _ _ h => h) (by kernel_rfl) ?y5 ?r5
              case y5 => intro w; go_simp; first | done | with_reducible rfl
              simp only [Act.put, List.setIfInBounds_toArray, List.set_cons_zero, List.set_cons_succ]
              refine takeYes 9 5 ?v6 rfl rfl (by kernel_rfl) (by kernel_rfl) (by kernel_rfl) (fun _ _ _ _ h => h) (by kernel_rfl) ?y6 ?r6
              case y6 => intro w; go_simp; first | done | with_reducible rfl
              simp only [Act.put, List.setIfInBounds_toArray, List.set_cons_zero, List.set_cons_succ]
              refine wpAny_done (by kernel_rfl) ?_ _
              go_wp2_with (first | (at_builtin; refine wpList_appG layS rfl _ _ 29 9 rfl Tryz.underlying29 (.string ⟨#[]⟩) 16 Tryz.info_string rfl (by decide) w.heap.size _ l.length _ l rfl (by first | exact HO4.out.alloc _ | exact (HO4.out.ext ((Ext.refl _).alloc _)).alloc _) _ 1 _ [nthS l 0 ++ u] rfl (RdG.new1 layS _ _ _ rfl _) (by omega) (by have := H4.out.size; simp; omega) ?_; intro a2 c2 w5 hown hgrow; have hgr5 : Drew w g w5 := (by first | exact draw_grow HO4.out.1 H4.out.1 hg (Nat.le_refl _) H4.out.2 hgrow | exact draw_grow (HO4.out.ext ((Ext.refl _).alloc _)).1 (H4.out.ext ((Ext.refl _).alloc _)).1 hg (Nat.le_refl _) (H4.out.ext ((Ext.refl _).alloc _)).2 hgrow); have HE := Lib.hid (And.intro hown hgr5); clear hgr5; clear hown hgrow))
              go_roundw
              case rel => exact ⟨l ++ [nthS l 0 ++ u], a2, c2, k - 1, by simp, by rw [show ((k : Int) - 1) = ((k - 1 : Nat) : Int) from by omega], by simp; omega, HB.out.snoc (by rw [ByteArray.size_append]; omega) (fun h => by omega), by simpa using HE.out.1, HE.out.2⟩
              case measure => simp [intOf]; omega
            · go_simp
              refine (l01Next_any _ _ _ (by first | exact (HD.out.2.1.ext (Ext.refl _).drew) | exact (HD.out.2.1.ext ((Ext.refl _).drew.alloc _)) | exact (HD.out.2.1.ext ((Ext.refl _).alloc _).drew)) (by omega)).mono ?_
              rintro e w3 ⟨z, rfl, hz0, hz1, hd3⟩
              obtain ⟨j, rfl⟩ := Int.eq_ofNat_of_zero_le hz0
              have hj : j < 4 := by omega
              have hji : (j : Int) < 4 := by omega
              have hd4 : Drew w2 g w3 := by first | exact Drew.pre (Ext.refl _).drew hd3.drew | exact Drew.pre ((Ext.refl _).alloc _).drew hd3.drew
              have H4 := Lib.hid (HD.out.2.trans hd4)
              have HO4 := Lib.hid (HD.out.1.drawn hd4.2 hg)
              have hcc := (hd4.cell (p := ⟨b, o, none⟩) hbl hbg).trans hc0
              have hb3 : b < w3.heap.size := Nat.lt_of_lt_of_le hbl hd4.size
              clear hd4
              try (obtain ⟨u, hc, hu⟩ := Lits.new (n := 4) (Drew.pre (Ext.refl _).drew hd3.drew) hg2 (by kernel_rfl) rfl j hj; (have p1 : ¬ 9223372036854775807 < (nthS l 0).size + u.size := (by omega)))
              clear hd3 hz1
              go_wp2_with fail
              try simp only [Act.put, List.setIfInBounds_toArray, List.set_cons_zero, List.set_cons_succ]
              refine wpAny_ready (rs := [3]) (by kernel_rfl) (by simp) ?_
              refine AllReady.cons rfl (fun K hK => ?_) AllReady.nil
              go_simp
              refine hK _ _ ?_
              clear hK K
              try (obtain ⟨u, hc1, hu⟩ := short_at (xs := #[.string ⟨#[]⟩, .string ⟨#[115]⟩, .string ⟨#[101]⟩, .string ⟨#[116, 104]⟩]) (by kernel_rfl) (k := j) hj; have hc : (w3.alloc (.cells #[.string ⟨#[]⟩, .string ⟨#[115]⟩, .string ⟨#[101]⟩, .string ⟨#[116, 104]⟩] 9)).cell? ⟨w3.heap.size, j, none⟩ = some (.string u) := (World.cell?_alloc_at _ _ _ _ rfl).trans hc1; have hcd := (Below.cell ((Ext.refl w3).alloc (.cells #[.string ⟨#[]⟩, .string ⟨#[115]⟩, .string ⟨#[101]⟩, .string ⟨#[116, 104]⟩] 9)) (p := ⟨b, o, none⟩) hb3).trans hcc; have hxq := (Ext.refl w3).alloc (.cells #[.string ⟨#[]⟩, .string ⟨#[115]⟩, .string ⟨#[101]⟩, .string ⟨#[116, 104]⟩] 9); have p1 : ¬ 9223372036854775807 < (nthS l 0).size + u.size := (by omega); replace HO4 := Lib.hid (HO4.out.ext hxq); replace H4 := Lib.hid (H4.out.ext hxq); generalize w3.alloc (.cells #[.string ⟨#[]⟩, .string ⟨#[115]⟩, .string ⟨#[101]⟩, .string ⟨#[116, 104]⟩] 9) = w3q at HO4 H4 hc hcd hxq ⊢)
              try simp only [Act.put, List.setIfInBounds_toArray, List.set_cons_zero, List.set_cons_succ]
              refine takeYes 6 29 ?v7 rfl rfl (by kernel_rfl) (by kernel_rfl) (by kernel_rfl) (fun _ _ _ _ h => h) (by kernel_rfl) ?y7 ?r7
              case y7 => intro w; go_simp; first | done | with_reducible rfl
              simp only [Act.put, List.setIfInBounds_toArray, List.set_cons_zero, List.set_cons_succ]
              refine wpAny_ready (rs := [7]) (by kernel_rfl) (by simp) ?_
              refine AllReady.cons rfl (fun K hK => ?_) AllReady.nil
              go_simp
              refine hK _ _ ?_
              clear hK K
              try simp only [Act.put, List.setIfInBounds_toArray, List.set_cons_zero, List.set_cons_succ]
              refine takeYes 8 31 ?v8 rfl rfl (by kernel_rfl) (by kernel_rfl) (by kernel_rfl) (fun _ _ _ _ h => h) (by kernel_rfl) ?y8 ?r8
              case y8 => intro w; go_simp; first | done | with_reducible rfl
              simp only [Act.put, List.setIfInBounds_toArray, List.set_cons_zero, List.set_cons_succ]
              refine takeYes 9 5 ?v9 rfl rfl (by kernel_rfl) (by kernel_rfl) (by kernel_rfl) (fun _ _ _ _ h => h) (by kernel_rfl) ?y9 ?r9
              case y9 => intro w; go_simp; first | done | with_reducible rfl
              simp only [Act.put, List.setIfInBounds_toArray, List.set_cons_zero, List.set_cons_succ]
              refine wpAny_done (by kernel_rfl) ?_ _
              go_wp2_with (first | (at_builtin; refine wpList_appG layS rfl _ _ 29 9 rfl Tryz.underlying29 (.string ⟨#[]⟩) 16 Tryz.info_string rfl (by decide) w.heap.size _ l.length _ l rfl (by first | exact HO4.out.alloc _ | exact (HO4.out.ext ((Ext.refl _).alloc _)).alloc _) _ 1 _ [nthS l 0 ++ u] rfl (RdG.new1 layS _ _ _ rfl _) (by omega) (by have := H4.out.size; simp; omega) ?_; intro a2 c2 w5 hown hgrow; have hgr5 : Drew w g w5 := (by first | exact draw_grow HO4.out.1 H4.out.1 hg (Nat.le_refl _) H4.out.2 hgrow | exact draw_grow (HO4.out.ext ((Ext.refl _).alloc _)).1 (H4.out.ext ((Ext.refl _).alloc _)).1 hg (Nat.le_refl _) (H4.out.ext ((Ext.refl _).alloc _)).2 hgrow); have HE := Lib.hid (And.intro hown hgr5); clear hgr5; clear hown hgrow))
              go_roundw
              case rel => exact ⟨l ++ [nthS l 0 ++ u], a2, c2, k - 1, by simp, by rw [show ((k : Int) - 1) = ((k - 1 : Nat) : Int) from by omega], by simp; omega, HB.out.snoc (by rw [ByteArray.size_append]; omega) (fun h => by omega), by simpa using HE.out.1, HE.out.2⟩
              case measure => simp [intOf]; omega
          · go_simp
            refine hK _ _ ?_
            clear hK K
            try (obtain ⟨u, hc1, hu⟩ := short_at (xs := #[.string ⟨#[]⟩, .string ⟨#[115]⟩, .string ⟨#[101]⟩, .string ⟨#[116, 104]⟩]) (by kernel_rfl) (k := j) hj; have hc : (w3.alloc (.cells #[.string ⟨#[]⟩, .string ⟨#[115]⟩, .string ⟨#[101]⟩, .string ⟨#[116, 104]⟩] 9)).cell? ⟨w3.heap.size, j, none⟩ = some (.string u) := (World.cell?_alloc_at _ _ _ _ rfl).trans hc1; have hcd := (Below.cell ((Ext.refl w3).alloc (.cells #[.string ⟨#[]⟩, .string ⟨#[115]⟩, .string ⟨#[101]⟩, .string ⟨#[116, 104]⟩] 9)) (p := ⟨b, o, none⟩) hb3).trans hcc; have hxq := (Ext.refl w3).alloc (.cells #[.string ⟨#[]⟩, .string ⟨#[115]⟩, .string ⟨#[101]⟩, .string ⟨#[116, 104]⟩] 9); have p1 : ¬ 9223372036854775807 < (nthS l 0).size + u.size := (by omega); replace HO4 := Lib.hid (HO4.out.ext hxq); replace H4 := Lib.hid (H4.out.ext hxq); generalize w3.alloc (.cells #[.string ⟨#[]⟩, .string ⟨#[115]⟩, .string ⟨#[101]⟩, .string ⟨#[116, 104]⟩] 9) = w3q at HO4 H4 hc hcd hxq ⊢)
            try simp only [Act.put, List.setIfInBounds_toArray, List.set_cons_zero, List.set_cons_succ]
            refine wpAny_ready (rs := [2, 5]) (by kernel_rfl) (by simp) ?_
            refine AllReady.cons rfl (fun K hK => ?_) (AllReady.cons rfl (fun K hK => ?_) AllReady.nil)
            · go_simp
              refine hK _ _ ?_
              clear hK K
              try simp only [Act.put, List.setIfInBounds_toArray, List.set_cons_zero, List.set_cons_succ]
              refine wpAny_ready (rs := [5]) (by kernel_rfl) (by simp) ?_
              refine AllReady.cons rfl (fun K hK => ?_) AllReady.nil
              go_simp
              refine (l01Next_any _ _ _ (by first | exact (HD.out.2.1.ext (Ext.refl _).drew) | exact (HD.out.2.1.ext ((Ext.refl _).drew.alloc _)) | exact (HD.out.2.1.ext ((Ext.refl _).alloc _).drew)) (by omega)).mono ?_
              rintro e w3 ⟨z, rfl, hz0, hz1, hd3⟩
              obtain ⟨j, rfl⟩ := Int.eq_ofNat_of_zero_le hz0
              have hj : j < 4 := by omega
              have hji : (j : Int) < 4 := by omega
              have hd4 : Drew w2 g w3 := by first | exact Drew.pre (Ext.refl _).drew hd3.drew | exact Drew.pre ((Ext.refl _).alloc _).drew hd3.drew
              have H4 := Lib.hid (HD.out.2.trans hd4)
              have HO4 := Lib.hid (HD.out.1.drawn hd4.2 hg)
              have hcc := (hd4.cell (p := ⟨b, o, none⟩) hbl hbg).trans hc0
              have hb3 : b < w3.heap.size := Nat.lt_of_lt_of_le hbl hd4.size
              clear hd4
              try (obtain ⟨u, hc, hu⟩ := Lits.new (n := 4) (Drew.pre (Ext.refl _).drew hd3.drew) hg2 (by kernel_rfl) rfl j hj; (have p1 : ¬ 9223372036854775807 < (nthS l 0).size + u.size := (by omega)))
              clear hd3 hz1
              go_wp2_with fail
              try simp only [Act.put, List.setIfInBounds_toArray, List.set_cons_zero, List.set_cons_succ]
              refine takeYes 6 29 ?v10 rfl rfl (by kernel_rfl) (by kernel_rfl) (by kernel_rfl) (fun _ _ _ _ h => h) (by kernel_rfl) ?y10 ?r10
              case y10 => intro w; go_simp; first | done | with_reducible rfl
              simp only [Act.put, List.setIfInBounds_toArray, List.set_cons_zero, List.set_cons_succ]
              refine wpAny_ready (rs := [7]) (by kernel_rfl) (by simp) ?_
              refine AllReady.cons rfl (fun K hK => ?_) AllReady.nil
              go_simp
              refine hK _ _ ?_
              clear hK K
              try simp only [Act.put, List.setIfInBounds_toArray, List.set_cons_zero, List.set_cons_succ]
              refine takeYes 8 31 ?v11 rfl rfl (by kernel_rfl) (by kernel_rfl) (by kernel_rfl) (fun _ _ _ _ h => h) (by kernel_rfl) ?y11 ?r11
              case y11 => intro w; go_simp; first | done | with_reducible rfl
              simp only [Act.put, List.setIfInBounds_toArray, List.set_cons_zero, List.set_cons_succ]
              refine takeYes 9 5 ?v12 rfl rfl (by kernel_rfl) (by kernel_rfl) (by kernel_rfl) (fun _ _ _ _ h => h) (by kernel_rfl) ?y12 ?r12
              case y12 => intro w; go_simp; first | done | with_reducible rfl
              simp only [Act.put, List.setIfInBounds_toArray, List.set_cons_zero, List.set_cons_succ]
              refine wpAny_done (by kernel_rfl) ?_ _
              go_wp2_with (first | (at_builtin; refine wpList_appG layS rfl _ _ 29 9 rfl Tryz.underlying29 (.string ⟨#[]⟩) 16 Tryz.info_string rfl (by decide) w.heap.size _ l.length _ l rfl (by first | exact HO4.out.alloc _ | exact (HO4.out.ext ((Ext.refl _).alloc _)).alloc _) _ 1 _ [nthS l 0 ++ u] rfl (RdG.new1 layS _ _ _ rfl _) (by omega) (by have := H4.out.size; simp; omega) ?_; intro a2 c2 w5 hown hgrow; have hgr5 : Drew w g w5 := (by first | exact draw_grow HO4.out.1 H4.out.1 hg (Nat.le_refl _) H4.out.2 hgrow | exact draw_grow (HO4.out.ext ((Ext.refl _).alloc _)).1 (H4.out.ext ((Ext.refl _).alloc _)).1 hg (Nat.le_refl _) (H4.out.ext ((Ext.refl _).alloc _)).2 hgrow); have HE := Lib.hid (And.intro hown hgr5); clear hgr5; clear hown hgrow))
              go_roundw
              case rel => exact ⟨l ++ [nthS l 0 ++ u], a2, c2, k - 1, by simp, by rw [show ((k : Int) - 1) = ((k - 1 : Nat) : Int) from by omega], by simp; omega, HB.out.snoc (by rw [ByteArray.size_append]; omega) (fun h => by omega), by simpa using HE.out.1, HE.out.2⟩
              case measure => simp [intOf]; omega
            · go_simp
              refine (l01Next_any _ _ _ (by first | exact (HD.out.2.1.ext (Ext.refl _).drew) | exact (HD.out.2.1.ext ((Ext.refl _).drew.alloc _)) | exact (HD.out.2.1.ext ((Ext.refl _).alloc _).drew)) (by omega)).mono ?_
              rintro e w3 ⟨z, rfl, hz0, hz1, hd3⟩
              obtain ⟨j, rfl⟩ := Int.eq_ofNat_of_zero_le hz0
              have hj : j < 4 := by omega
              have hji : (j : Int) < 4 := by omega
              have hd4 : Drew w2 g w3 := by first | exact Drew.pre (Ext.refl _).drew hd3.drew | exact Drew.pre ((Ext.refl _).alloc _).drew hd3.drew
              have H4 := Lib.hid (HD.out.2.trans hd4)
              have HO4 := Lib.hid (HD.out.1.drawn hd4.2 hg)
              have hcc := (hd4.cell (p := ⟨b, o, none⟩) hbl hbg).trans hc0
              have hb3 : b < w3.heap.size := Nat.lt_of_lt_of_le hbl hd4.size
              clear hd4
              try (obtain ⟨u, hc, hu⟩ := Lits.new (n := 4) (Drew.pre (Ext.refl _).drew hd3.drew) hg2 (by kernel_rfl) rfl j hj; (have p1 : ¬ 9223372036854775807 < (nthS l 0).size + u.size := (by omega)))
              clear hd3 hz1
              go_wp2_with fail
              try simp only [Act.put, List.setIfInBounds_toArray, List.set_cons_zero, List.set_cons_succ]
              refine takeYes 6 29 ?v13 rfl rfl (by kernel_rfl) (by kernel_rfl) (by kernel_rfl) (fun _ _ _ _ h => h) (by kernel_rfl) ?y13 ?r13
              case y13 => intro w; go_simp; first | done | with_reducible rfl
              simp only [Act.put, List.setIfInBounds_toArray, List.set_cons_zero, List.set_cons_succ]
              refine wpAny_ready (rs := [2, 7]) (by kernel_rfl) (by simp) ?_
              refine AllReady.cons rfl (fun K hK => ?_) (AllReady.cons rfl (fun K hK => ?_) AllReady.nil)
              · go_simp
                refine hK _ _ ?_
                clear hK K
                try simp only [Act.put, List.setIfInBounds_toArray, List.set_cons_zero, List.set_cons_succ]
                refine wpAny_ready (rs := [7]) (by kernel_rfl) (by simp) ?_
                refine AllReady.cons rfl (fun K hK => ?_) AllReady.nil
                go_simp
                refine hK _ _ ?_
                clear hK K
                try simp only [Act.put, List.setIfInBounds_toArray, List.set_cons_zero, List.set_cons_succ]
                refine takeYes 8 31 ?v14 rfl rfl (by kernel_rfl) (by kernel_rfl) (by kernel_rfl) (fun _ _ _ _ h => h) (by kernel_rfl) ?y14 ?r14
                case y14 => intro w; go_simp; first | done | with_reducible rfl
                simp only [Act.put, List.setIfInBounds_toArray, List.set_cons_zero, List.set_cons_succ]
                refine takeYes 9 5 ?v15 rfl rfl (by kernel_rfl) (by kernel_rfl) (by kernel_rfl) (fun _ _ _ _ h => h) (by kernel_rfl) ?y15 ?r15
                case y15 => intro w; go_simp; first | done | with_reducible rfl
                simp only [Act.put, List.setIfInBounds_toArray, List.set_cons_zero, List.set_cons_succ]
                refine wpAny_done (by kernel_rfl) ?_ _
                go_wp2_with (first | (at_builtin; refine wpList_appG layS rfl _ _ 29 9 rfl Tryz.underlying29 (.string ⟨#[]⟩) 16 Tryz.info_string rfl (by decide) w.heap.size _ l.length _ l rfl (by first | exact HO4.out.alloc _ | exact (HO4.out.ext ((Ext.refl _).alloc _)).alloc _) _ 1 _ [nthS l 0 ++ u] rfl (RdG.new1 layS _ _ _ rfl _) (by omega) (by have := H4.out.size; simp; omega) ?_; intro a2 c2 w5 hown hgrow; have hgr5 : Drew w g w5 := (by first | exact draw_grow HO4.out.1 H4.out.1 hg (Nat.le_refl _) H4.out.2 hgrow | exact draw_grow (HO4.out.ext ((Ext.refl _).alloc _)).1 (H4.out.ext ((Ext.refl _).alloc _)).1 hg (Nat.le_refl _) (H4.out.ext ((Ext.refl _).alloc _)).2 hgrow); have HE := Lib.hid (And.intro hown hgr5); clear hgr5; clear hown hgrow))
                go_roundw
                case rel => exact ⟨l ++ [nthS l 0 ++ u], a2, c2, k - 1, by simp, by rw [show ((k : Int) - 1) = ((k - 1 : Nat) : Int) from by omega], by simp; omega, HB.out.snoc (by rw [ByteArray.size_append]; omega) (fun h => by omega), by simpa using HE.out.1, HE.out.2⟩
                case measure => simp [intOf]; omega
              · go_simp
                refine hK _ _ ?_
                clear hK K
                try simp only [Act.put, List.setIfInBounds_toArray, List.set_cons_zero, List.set_cons_succ]
                refine wpAny_ready (rs := [2]) (by kernel_rfl) (by simp) ?_
                refine AllReady.cons rfl (fun K hK => ?_) AllReady.nil
                go_simp
                refine hK _ _ ?_
                clear hK K
                try simp only [Act.put, List.setIfInBounds_toArray, List.set_cons_zero, List.set_cons_succ]
                refine takeYes 8 31 ?v16 rfl rfl (by kernel_rfl) (by kernel_rfl) (by kernel_rfl) (fun _ _ _ _ h => h) (by kernel_rfl) ?y16 ?r16
                case y16 => intro w; go_simp; first | done | with_reducible rfl
                simp only [Act.put, List.setIfInBounds_toArray, List.set_cons_zero, List.set_cons_succ]
                refine takeYes 9 5 ?v17 rfl rfl (by kernel_rfl) (by kernel_rfl) (by kernel_rfl) (fun _ _ _ _ h => h) (by kernel_rfl) ?y17 ?r17
                case y17 => intro w; go_simp; first | done | with_reducible rfl
                simp only [Act.put, List.setIfInBounds_toArray, List.set_cons_zero, List.set_cons_succ]
                refine wpAny_done (by kernel_rfl) ?_ _
                go_wp2_with (first | (at_builtin; refine wpList_appG layS rfl _ _ 29 9 rfl Tryz.underlying29 (.string ⟨#[]⟩) 16 Tryz.info_string rfl (by decide) w.heap.size _ l.length _ l rfl (by first | exact HO4.out.alloc _ | exact (HO4.out.ext ((Ext.refl _).alloc _)).alloc _) _ 1 _ [nthS l 0 ++ u] rfl (RdG.new1 layS _ _ _ rfl _) (by omega) (by have := H4.out.size; simp; omega) ?_; intro a2 c2 w5 hown hgrow; have hgr5 : Drew w g w5 := (by first | exact draw_grow HO4.out.1 H4.out.1 hg (Nat.le_refl _) H4.out.2 hgrow | exact draw_grow (HO4.out.ext ((Ext.refl _).alloc _)).1 (H4.out.ext ((Ext.refl _).alloc _)).1 hg (Nat.le_refl _) (H4.out.ext ((Ext.refl _).alloc _)).2 hgrow); have HE := Lib.hid (And.intro hown hgr5); clear hgr5; clear hown hgrow))
                go_roundw
                case rel => exact ⟨l ++ [nthS l 0 ++ u], a2, c2, k - 1, by simp, by rw [show ((k : Int) - 1) = ((k - 1 : Nat) : Int) from by omega], by simp; omega, HB.out.snoc (by rw [ByteArray.size_append]; omega) (fun h => by omega), by simpa using HE.out.1, HE.out.2⟩
                case measure => simp [intOf]; omega
          · go_simp
            refine (l01Next_any _ _ _ (by first | exact (HD.out.2.1.ext (Ext.refl _).drew) | exact (HD.out.2.1.ext ((Ext.refl _).drew.alloc _)) | exact (HD.out.2.1.ext ((Ext.refl _).alloc _).drew)) (by omega)).mono ?_
            rintro e w3 ⟨z, rfl, hz0, hz1, hd3⟩
            obtain ⟨j, rfl⟩ := Int.eq_ofNat_of_zero_le hz0
            have hj : j < 4 := by omega
            have hji : (j : Int) < 4 := by omega
            have hd4 : Drew w2 g w3 := by first | exact Drew.pre (Ext.refl _).drew hd3.drew | exact Drew.pre ((Ext.refl _).alloc _).drew hd3.drew
            have H4 := Lib.hid (HD.out.2.trans hd4)
            have HO4 := Lib.hid (HD.out.1.drawn hd4.2 hg)
            have hcc := (hd4.cell (p := ⟨b, o, none⟩) hbl hbg).trans hc0
            have hb3 : b < w3.heap.size := Nat.lt_of_lt_of_le hbl hd4.size
            clear hd4
            try (obtain ⟨u, hc, hu⟩ := Lits.new (n := 4) (Drew.pre (Ext.refl _).drew hd3.drew) hg2 (by kernel_rfl) rfl j hj; (have p1 : ¬ 9223372036854775807 < (nthS l 0).size + u.size := (by omega)))
            clear hd3 hz1
            go_wp2_with fail
            try simp only [Act.put, List.setIfInBounds_toArray, List.set_cons_zero, List.set_cons_succ]
            refine wpAny_ready (rs := [2, 3]) (by kernel_rfl) (by simp) ?_
            refine AllReady.cons rfl (fun K hK => ?_) (AllReady.cons rfl (fun K hK => ?_) AllReady.nil)
            · go_simp
              refine hK _ _ ?_
              clear hK K
              try simp only [Act.put, List.setIfInBounds_toArray, List.set_cons_zero, List.set_cons_succ]
              refine wpAny_ready (rs := [3]) (by kernel_rfl) (by simp) ?_
              refine AllReady.cons rfl (fun K hK => ?_) AllReady.nil
              go_simp
              refine hK _ _ ?_
              clear hK K
              try (obtain ⟨u, hc1, hu⟩ := short_at (xs := #[.string ⟨#[]⟩, .string ⟨#[115]⟩, .string ⟨#[101]⟩, .string ⟨#[116, 104]⟩]) (by kernel_rfl) (k := j) hj; have hc : (w3.alloc (.cells #[.string ⟨#[]⟩, .string ⟨#[115]⟩, .string ⟨#[101]⟩, .string ⟨#[116, 104]⟩] 9)).cell? ⟨w3.heap.size, j, none⟩ = some (.string u) := (World.cell?_alloc_at _ _ _ _ rfl).trans hc1; have hcd := (Below.cell ((Ext.refl w3).alloc (.cells #[.string ⟨#[]⟩, .string ⟨#[115]⟩, .string ⟨#[101]⟩, .string ⟨#[116, 104]⟩] 9)) (p := ⟨b, o, none⟩) hb3).trans hcc; have hxq := (Ext.refl w3).alloc (.cells #[.string ⟨#[]⟩, .string ⟨#[115]⟩, .string ⟨#[101]⟩, .string ⟨#[116, 104]⟩] 9); have p1 : ¬ 9223372036854775807 < (nthS l 0).size + u.size := (by omega); replace HO4 := Lib.hid (HO4.out.ext hxq); replace H4 := Lib.hid (H4.out.ext hxq); generalize w3.alloc (.cells #[.string ⟨#[]⟩, .string ⟨#[115]⟩, .string ⟨#[101]⟩, .string ⟨#[116, 104]⟩] 9) = w3q at HO4 H4 hc hcd hxq ⊢)
              try simp only [Act.put, List.setIfInBounds_toArray, List.set_cons_zero, List.set_cons_succ]
              refine takeYes 6 29 ?v18 rfl rfl (by kernel_rfl) (by kernel_rfl) (by kernel_rfl) (fun _ _ _ _ h => h) (by kernel_rfl) ?y18 ?r18
              case y18 => intro w; go_simp; first | done | with_reducible rfl
              simp only [Act.put, List.setIfInBounds_toArray, List.set_cons_zero, List.set_cons_succ]
              refine wpAny_ready (rs := [7]) (by kernel_rfl) (by simp) ?_
              refine AllReady.cons rfl (fun K hK => ?_) AllReady.nil
              go_simp
              refine hK _ _ ?_
              clear hK K
              try simp only [Act.put, List.setIfInBounds_toArray, List.set_cons_zero, List.set_cons_succ]
              refine takeYes 8 31 ?v19 rfl rfl (by kernel_rfl) (by kernel_rfl) (by kernel_rfl) (fun _ _ _ _ h => h) (by kernel_rfl) ?y19 ?r19
              case y19 => intro w; go_simp; first | done | with_reducible rfl
              simp only [Act.put, List.setIfInBounds_toArray, List.set_cons_zero, List.set_cons_succ]
              refine takeYes 9 5 ?v20 rfl rfl (by kernel_rfl) (by kernel_rfl) (by kernel_rfl) (fun _ _ _ _ h => h) (by kernel_rfl) ?y20 ?r20
              case y20 => intro w; go_simp; first | done | with_reducible rfl
              simp only [Act.put, List.setIfInBounds_toArray, List.set_cons_zero, List.set_cons_succ]
              refine wpAny_done (by kernel_rfl) ?_ _
              go_wp2_with (first | (at_builtin; refine wpList_appG layS rfl _ _ 29 9 rfl Tryz.underlying29 (.string ⟨#[]⟩) 16 Tryz.info_string rfl (by decide) w.heap.size _ l.length _ l rfl (by first | exact HO4.out.alloc _ | exact (HO4.out.ext ((Ext.refl _).alloc _)).alloc _) _ 1 _ [nthS l 0 ++ u] rfl (RdG.new1 layS _ _ _ rfl _) (by omega) (by have := H4.out.size; simp; omega) ?_; intro a2 c2 w5 hown hgrow; have hgr5 : Drew w g w5 := (by first | exact draw_grow HO4.out.1 H4.out.1 hg (Nat.le_refl _) H4.out.2 hgrow | exact draw_grow (HO4.out.ext ((Ext.refl _).alloc _)).1 (H4.out.ext ((Ext.refl _).alloc _)).1 hg (Nat.le_refl _) (H4.out.ext ((Ext.refl _).alloc _)).2 hgrow); have HE := Lib.hid (And.intro hown hgr5); clear hgr5; clear hown hgrow))
              go_roundw
              case rel => exact ⟨l ++ [nthS l 0 ++ u], a2, c2, k - 1, by simp, by rw [show ((k : Int) - 1) = ((k - 1 : Nat) : Int) from by omega], by simp; omega, HB.out.snoc (by rw [ByteArray.size_append]; omega) (fun h => by omega), by simpa using HE.out.1, HE.out.2⟩
              case measure => simp [intOf]; omega
            · go_simp
              refine hK _ _ ?_
              clear hK K
              try (obtain ⟨u, hc1, hu⟩ := short_at (xs := #[.string ⟨#[]⟩, .string ⟨#[115]⟩, .string ⟨#[101]⟩, .string ⟨#[116, 104]⟩]) (by kernel_rfl) (k := j) hj; have hc : (w3.alloc (.cells #[.string ⟨#[]⟩, .string ⟨#[115]⟩, .string ⟨#[101]⟩, .string ⟨#[116, 104]⟩] 9)).cell? ⟨w3.heap.size, j, none⟩ = some (.string u) := (World.cell?_alloc_at _ _ _ _ rfl).trans hc1; have hcd := (Below.cell ((Ext.refl w3).alloc (.cells #[.string ⟨#[]⟩, .string ⟨#[115]⟩, .string ⟨#[101]⟩, .string ⟨#[116, 104]⟩] 9)) (p := ⟨b, o, none⟩) hb3).trans hcc; have hxq := (Ext.refl w3).alloc (.cells #[.string ⟨#[]⟩, .string ⟨#[115]⟩, .string ⟨#[101]⟩, .string ⟨#[116, 104]⟩] 9); have p1 : ¬ 9223372036854775807 < (nthS l 0).size + u.size := (by omega); replace HO4 := Lib.hid (HO4.out.ext hxq); replace H4 := Lib.hid (H4.out.ext hxq); generalize w3.alloc (.cells #[.string ⟨#[]⟩, .string ⟨#[115]⟩, .string ⟨#[101]⟩, .string ⟨#[116, 104]⟩] 9) = w3q at HO4 H4 hc hcd hxq ⊢)
              try simp only [Act.put, List.setIfInBounds_toArray, List.set_cons_zero, List.set_cons_succ]
              refine takeYes 6 29 ?v21 rfl rfl (by kernel_rfl) (by kernel_rfl) (by kernel_rfl) (fun _ _ _ _ h => h) (by kernel_rfl) ?y21 ?r21
              case y21 => intro w; go_simp; first | done | with_reducible rfl
              simp only [Act.put, List.setIfInBounds_toArray, List.set_cons_zero, List.set_cons_succ]
              refine wpAny_ready (rs := [2, 7]) (by kernel_rfl) (by simp) ?_
              refine AllReady.cons rfl (fun K hK => ?_) (AllReady.cons rfl (fun K hK => ?_) AllReady.nil)
              · go_simp
                refine hK _ _ ?_
                clear hK K
                try simp only [Act.put, List.setIfInBounds_toArray, List.set_cons_zero, List.set_cons_succ]
                refine wpAny_ready (rs := [7]) (by kernel_rfl) (by simp) ?_
                refine AllReady.cons rfl (fun K hK => ?_) AllReady.nil
                go_simp
                refine hK _ _ ?_
                clear hK K
                try simp only [Act.put, List.setIfInBounds_toArray, List.set_cons_zero, List.set_cons_succ]
                refine takeYes 8 31 ?v22 rfl rfl (by kernel_rfl) (by kernel_rfl) (by kernel_rfl) (fun _ _ _ _ h => h) (by kernel_rfl) ?y22 ?r22
                case y22 => intro w; go_simp; first | done | with_reducible rfl
                simp only [Act.put, List.setIfInBounds_toArray, List.set_cons_zero, List.set_cons_succ]
                refine takeYes 9 5 ?v23 rfl rfl (by kernel_rfl) (by kernel_rfl) (by kernel_rfl) (fun _ _ _ _ h => h) (by kernel_rfl) ?y23 ?r23
                case y23 => intro w; go_simp; first | done | with_reducible rfl
                simp only [Act.put, List.setIfInBounds_toArray, List.set_cons_zero, List.set_cons_succ]
                refine wpAny_done (by kernel_rfl) ?_ _
                go_wp2_with (first | (at_builtin; refine wpList_appG layS rfl _ _ 29 9 rfl Tryz.underlying29 (.string ⟨#[]⟩) 16 Tryz.info_string rfl (by decide) w.heap.size _ l.length _ l rfl (by first | exact HO4.out.alloc _ | exact (HO4.out.ext ((Ext.refl _).alloc _)).alloc _) _ 1 _ [nthS l 0 ++ u] rfl (RdG.new1 layS _ _ _ rfl _) (by omega) (by have := H4.out.size; simp; omega) ?_; intro a2 c2 w5 hown hgrow; have hgr5 : Drew w g w5 := (by first | exact draw_grow HO4.out.1 H4.out.1 hg (Nat.le_refl _) H4.out.2 hgrow | exact draw_grow (HO4.out.ext ((Ext.refl _).alloc _)).1 (H4.out.ext ((Ext.refl _).alloc _)).1 hg (Nat.le_refl _) (H4.out.ext ((Ext.refl _).alloc _)).2 hgrow); have HE := Lib.hid (And.intro hown hgr5); clear hgr5; clear hown hgrow))
                go_roundw
                case rel => exact ⟨l ++ [nthS l 0 ++ u], a2, c2, k - 1, by simp, by rw [show ((k : Int) - 1) = ((k - 1 : Nat) : Int) from by omega], by simp; omega, HB.out.snoc (by rw [ByteArray.size_append]; omega) (fun h => by omega), by simpa using HE.out.1, HE.out.2⟩
                case measure => simp [intOf]; omega
              · go_simp
                refine hK _ _ ?_
                clear hK K
                try simp only [Act.put, List.setIfInBounds_toArray, List.set_cons_zero, List.set_cons_succ]
                refine wpAny_ready (rs := [2]) (by kernel_rfl) (by simp) ?_
                refine AllReady.cons rfl (fun K hK => ?_) AllReady.nil
                go_simp
                refine hK _ _ ?_
                clear hK K
                try simp only [Act.put, List.setIfInBounds_toArray, List.set_cons_zero, List.set_cons_succ]
                refine takeYes 8 31 ?v24 rfl rfl (by kernel_rfl) (by kernel_rfl) (by kernel_rfl) (fun _ _ _ _ h => h) (by kernel_rfl) ?y24 ?r24
                case y24 => intro w; go_simp; first | done | with_reducible rfl
                simp only [Act.put, List.setIfInBounds_toArray, List.set_cons_zero, List.set_cons_succ]
                refine takeYes 9 5 ?v25 rfl rfl (by kernel_rfl) (by kernel_rfl) (by kernel_rfl) (fun _ _ _ _ h => h) (by kernel_rfl) ?y25 ?r25
                case y25 => intro w; go_simp; first | done | with_reducible rfl
                simp only [Act.put, List.setIfInBounds_toArray, List.set_cons_zero, List.set_cons_succ]
                refine wpAny_done (by kernel_rfl) ?_ _
                go_wp2_with (first | (at_builtin; refine wpList_appG layS rfl _ _ 29 9 rfl Tryz.underlying29 (.string ⟨#[]⟩) 16 Tryz.info_string rfl (by decide) w.heap.size _ l.length _ l rfl (by first | exact HO4.out.alloc _ | exact (HO4.out.ext ((Ext.refl _).alloc _)).alloc _) _ 1 _ [nthS l 0 ++ u] rfl (RdG.new1 layS _ _ _ rfl _) (by omega) (by have := H4.out.size; simp; omega) ?_; intro a2 c2 w5 hown hgrow; have hgr5 : Drew w g w5 := (by first | exact draw_grow HO4.out.1 H4.out.1 hg (Nat.le_refl _) H4.out.2 hgrow | exact draw_grow (HO4.out.ext ((Ext.refl _).alloc _)).1 (H4.out.ext ((Ext.refl _).alloc _)).1 hg (Nat.le_refl _) (H4.out.ext ((Ext.refl _).alloc _)).2 hgrow); have HE := Lib.hid (And.intro hown hgr5); clear hgr5; clear hown hgrow))
                go_roundw
                case rel => exact ⟨l ++ [nthS l 0 ++ u], a2, c2, k - 1, by simp, by rw [show ((k : Int) - 1) = ((k - 1 : Nat) : Int) from by omega], by simp; omega, HB.out.snoc (by rw [ByteArray.size_append]; omega) (fun h => by omega), by simpa using HE.out.1, HE.out.2⟩
                case measure => simp [intOf]; omega
      · obtain rfl : l = [] := List.eq_nil_of_length_eq_zero (by omega)
        have HO1 := Lib.hid (And.intro HO.out hsz)
        simp only [List.length_nil] at HD hl hlk
        go_wp2_with (first | (at_builtin; refine wpList_appG layS rfl _ _ 29 9 rfl Tryz.underlying29 (.string ⟨#[]⟩) 16 Tryz.info_string rfl (by decide) w.heap.size _ 0 _ [] rfl (HD.out.1.alloc _) _ 1 _ [_] rfl (RdG.new1 layS _ _ _ rfl _) (by omega) (by have := HD.out.2.size; simp; omega) ?_; intro a2 c2 w5 hown hgrow; have HE := Lib.hid (And.intro hown (draw_grow HD.out.1.1 HD.out.2.1 hg (Nat.le_refl _) HD.out.2.2 hgrow)); clear hown hgrow))
        go_roundw
        case rel => exact ⟨[] ++ [s], a2, c2, k - 1, by simp, by rw [show ((k : Int) - 1) = ((k - 1 : Nat) : Int) from by omega], by simp; omega, HB.out.snoc (by omega) (fun _ => hsz), by simpa using HE.out.1, HE.out.2⟩
        case measure => simp [intOf]; omega
    · have HO := Lib.hid (And.intro ho hD)
      clear ho hD
      go_wp2_with fail
      refine (l01Next_any _ _ _ HO.out.2.1 (by omega)).mono ?_
      rintro e w2 ⟨y, rfl, hy0, hy1, hd⟩
      have H2 := Lib.hid (And.intro (HO.out.1.drawn hd.grown hg) (HO.out.2.trans hd.drew))
      clear hd HO
      by_cases y0 : y = 0
      · subst y0
        have HB1 := Lib.hid HB.out.1
        clear HB
        go_wp2
        go_loopw [3] (fun v wr => ∃ (l : List ByteArray) (a1 : Option Addr) (c1 : Nat), v = .slice a1 l.length c1 ∧ l.length ≤ 21 ∧ (∀ s ∈ l, s.size ≤ 68) ∧ OwnG layS 9 wr w.heap.size a1 l.length c1 l ∧ Drew w g wr) (fun v _ => 21 - lenV v)
        case atStart => exact ⟨l, a1, c1, rfl, by omega, HB1.out, H2.out.1, H2.out.2⟩
        case round =>
          obtain ⟨l, a1, c1, rfl, hl21, hls, ho, hD⟩ := hrel
          have HO := Lib.hid (And.intro hls (And.intro ho hD))
          clear hls ho hD H2
          go_wp2_with fail
          refine (l01Next_any _ _ _ HO.out.2.2.1 (by omega)).mono ?_
          rintro e w3 ⟨z, rfl, hz0, hz1, hd⟩
          have H3 := Lib.hid (And.intro (HO.out.2.1.drawn hd.grown hg) (HO.out.2.2.trans hd.drew))
          clear hd
          by_cases hlz : (l.length : Int) < 20 + z
          · go_wp2_with (first | (at_builtin; refine wpList_appG layS rfl _ _ 29 9 rfl Tryz.underlying29 (.string ⟨#[]⟩) 16 Tryz.info_string rfl (by decide) w.heap.size _ l.length _ l rfl (H3.out.1.alloc _) _ 1 _ [_] rfl (RdG.new1 layS _ _ _ rfl _) (by omega) (by have := H3.out.2.size; simp; omega) ?_; intro a2 c2 w5 hown hgrow; have HE := Lib.hid (And.intro hown (draw_grow H3.out.1.1 H3.out.2.1 hg (Nat.le_refl _) H3.out.2.2 hgrow)); clear hown hgrow))
            go_roundw
            case rel => exact ⟨l ++ [⟨#[97, 115, 104]⟩], a2, c2, by simp, by simp; omega, (fun q hq => (List.mem_append.1 hq).elim (HO.out.1 q) (fun h => by rw [List.mem_singleton.1 h]; decide)), by simpa using HE.out.1, HE.out.2⟩
            case measure => simp [lenV]; omega
          · go_wp2
            go_ret
            exact ⟨_, _, l, rfl, hl21, HO.out.1, H3.out.1, H3.out.2⟩
      · go_wp2
        go_ret
        exact ⟨_, _, l, rfl, by omega, HB.out.1, H2.out.1, H2.out.2⟩

/-- What the draw of matches hands back. -/
def DrewM (w : World) (e : Ending) (w' : World) : Prop := ∃ a n c zs a2 c2 ss s, e = .returned (.tuple #[.slice a n c, .slice a2 ss.length c2, .string s]) ∧ n ≤ 26 ∧ OwnI w' w.heap.size a n c zs ∧ ss.length ≤ 21 ∧ OwnS w' w.heap.size a2 ss.length c2 ss ∧ s.size ≤ 68 ∧ Ext w w'

set_option maxRecDepth 100000 in
set_option maxHeartbeats 1000000 in
theorem drawMatchSounds_any (a : Option Addr) (n c : Nat) (bs : List Int) (w : World) (hr : RdBy w a n bs) :
    Calls Tryz.prog 9 #[.slice a n c] w (DrewM w) := by
  go_enter Tryz.func9, Tryz.ntmps9
  go_wp2_with fail
  refine (l01From_any _ _ _ _ _ hr).mono ?_
  rintro e w1 ⟨g, rfl, hg, hs, x1⟩
  have hg1 := hs.lt
  have hsz1 := x1.size
  have H1 := Lib.hid (And.intro hs x1)
  clear hs x1
  go_wp2_with fail
  refine (l07Table_any _ _ H1.out.1).mono ?_
  rintro e w2 ⟨a2, n2, c2, zs, rfl, hn2, o2, hd⟩
  have hg2 := hd.1.lt
  have hsz2 := hd.size
  have H2 := Lib.hid (And.intro o2 hd)
  clear o2 hd
  go_wp2_with fail
  refine (l07List_any _ _ H2.out.2.1).mono ?_
  rintro e w3 ⟨a3, c3, ss, rfl, hl, hss, o3, hd⟩
  have H3 := Lib.hid (And.intro (H2.out.1.drawn hd.2 hg1) (And.intro o3 (H2.out.2.trans hd)))
  have HS := Lib.hid hss
  clear o3 hd hss
  have hres : ∀ (w' : World) (s : ByteArray), s.size ≤ 68 → Drew w3 g w' → DrewM w (.returned (.tuple #[.slice a2 n2 c2, .slice a3 ss.length c3, .string s])) w' := fun w' s hs hd =>
    ⟨_, _, _, zs, _, _, ss, s, rfl, hn2, (H3.out.1.drawn hd.2 hg1).mono hsz1, hl, ⟨(H3.out.2.1.drawn hd.2 hg2).mono (Nat.le_trans hsz1 hsz2), fun s hs => Nat.le_trans (HS.out s hs) (by decide)⟩, hs, draw_ext H1.out.2 (H3.out.2.2.trans hd) hg⟩
  have HR := Lib.hid hres
  clear hres
  by_cases hl0 : 0 < ss.length
  · have hli : (0 : Int) < ss.length := by omega
    go_wp2_with fail
    refine (l01Next_any _ _ _ H3.out.2.2.1 (by omega)).mono ?_
    rintro e w4 ⟨y, rfl, hy0, hy1, hd⟩
    have H4 := Lib.hid (And.intro (H3.out.2.1.drawn hd.grown hg2) hd.drew)
    clear hd
    cases hyy : (y == 0)
    · go_wp2_with fail
      refine (l01DrawWord_any _ _ H4.out.2.1).mono ?_
      rintro e w5 ⟨s, rfl, hsz, hd⟩
      have H5 := Lib.hid (H4.out.2.trans hd)
      clear hd
      go_wp2
      go_ret3
      exact HR.out _ _ (by omega) H5.out
    · obtain ⟨b, o, rfl, hbl, hA⟩ := H4.out.1.rd.at hl0
      have hc0 := hA 0 _ (List.getElem?_eq_getElem hl0) 0 _ rfl
      rw [← nthS_eq hl0] at hc0
      simp only [layS, Nat.zero_mul, Nat.add_zero] at hc0
      have hsz := HS.out _ (nthS_mem hl0)
      clear hA
      go_wp2
      go_quiet (fail)
      go_wp2
      go_ret3
      exact HR.out _ _ hsz (H4.out.2.ext ((Still.refl _).drewN _).ext)
  · go_wp2_with fail
    refine (l01DrawWord_any _ _ H3.out.2.2.1).mono ?_
    rintro e w5 ⟨s, rfl, hsz, hd⟩
    have H5 := Lib.hid hd
    clear hd
    go_wp2
    go_ret3
    exact HR.out _ _ (by omega) H5.out

end Go.Proofs.YtfglmoedicijkaaGreatDoor

/-
  The reference's draws of phrases to be sorted.
-/
import Derived.Test.YtdicjpkcgeofjaaGreatDoorSDE
import Derived.Test.YtdicjpkcgeofjaaGreatDoorSQ
namespace Go.Proofs.YtdicjpkcgeofjaaGreatDoor
open Go.RowKit

def shortP (ss : List ByteArray) : Prop := (∀ s ∈ ss, s.size ≤ 217) ∧ (nthS ss 0).size ≤ 200
theorem shortP.snoc {l : List ByteArray} {s : ByteArray} (h : shortP l) (hs : s.size ≤ 217) (h0 : l.length = 0 → s.size ≤ 200) : shortP (l ++ [s]) := by
  refine ⟨fun z hz => ?_, ?_⟩
  · rcases List.mem_append.1 hz with k | k
    · exact h.1 z k
    · rw [List.mem_singleton.1 k]; exact hs
  · cases l with
    | nil => exact h0 rfl
    | cons x xs => exact h.2
/-- What the draws hand back: an alphabet and phrases. -/
def DrewSL (w : World) (e : Ending) (w' : World) : Prop := ∃ (a1 : Option Addr) (c1 : Nat) (ss : List ByteArray) (a2 : Option Addr) (c2 : Nat) (ls : List ByteArray), e = .returned (.tuple #[.slice a1 ss.length c1, .slice a2 ls.length c2]) ∧ ss.length ≤ 42 ∧ OwnS w' w.heap.size a1 ss.length c1 ss ∧ ls.length ≤ 22 ∧ OwnS w' w.heap.size a2 ls.length c2 ls ∧ Ext w w'
def DrewSP (w : World) (e : Ending) (w' : World) : Prop := ∃ (a1 : Option Addr) (c1 : Nat) (ss : List ByteArray) (a2 : Option Addr) (c2 : Nat) (ls : List ByteArray) (a3 : Option Addr) (c3 : Nat) (zs : List Int), e = .returned (.tuple #[.slice a1 ss.length c1, .slice a2 ls.length c2, .slice a3 zs.length c3]) ∧ OwnS w' w.heap.size a1 ss.length c1 ss ∧ OwnS w' w.heap.size a2 ls.length c2 ls ∧ OwnI w' w.heap.size a3 zs.length c3 zs ∧ Ext w w'

set_option maxRecDepth 100000 in
set_option maxHeartbeats 4000000 in
theorem l06List_any (a : Option Addr) (n c : Nat) (bs : List Int) (w0 : World) (hr : RdBy w0 a n bs) :
    Calls Tryz.prog 20 #[.slice a n c] w0 (DrewSL w0) := by
  go_enter Tryz.func20, Tryz.ntmps20
  go_wp2_with fail
  refine (l01From_any _ _ _ _ _ hr).mono ?_
  rintro e w1 ⟨g, rfl, hg0, hs, x1⟩
  have hg1 := hs.lt
  have hsz1 := x1.size
  go_wp2_with fail
  refine (l06Letters_any _ _ hs).mono ?_
  rintro e w ⟨a1, c1, ss, rfl, hl42, h68, o1, d1⟩
  have hg := d1.1.lt
  have hsz2 := d1.size
  have HZ := Lib.hid (And.intro o1 (And.intro h68 (And.intro d1 x1)))
  have HS := Lib.hid d1.1
  clear o1 h68 d1 x1 hs
  go_wp2_with fail
  refine (l01Next_any _ _ _ (HS.out.ext ((Ext.refl _).alloc _)) (by omega)).mono ?_
  rintro e w2 ⟨x, rfl, hx0, hx1, hd⟩
  have HL := Lib.hid (And.intro (Drew.pre ((Ext.refl _).alloc _) hd.drew) ((OwnG.lit layS 9 w (Nat.le_refl _) [] #[] rfl (by simp)).drawn hd.grown hg))
  clear hd
  have hres : ∀ (a2 : Option Addr) (c2 : Nat) (ls : List ByteArray) (w' : World), ls.length ≤ 22 → (∀ s ∈ ls, s.size ≤ 217) → OwnG layS 9 w' w.heap.size a2 ls.length c2 ls → Drew w g w' → DrewSL w0 (.returned (.tuple #[.slice a1 ss.length c1, .slice a2 ls.length c2])) w' := fun a2 c2 ls w' h1 h2 h3 h4 =>
    ⟨a1, c1, ss, a2, c2, ls, rfl, hl42, ⟨(HZ.out.1.drawn h4.2 hg1).mono hsz1, fun s hs => Nat.le_trans (HZ.out.2.1 s hs) (by decide)⟩, h1, ⟨h3.mono (Nat.le_trans hsz1 hsz2), fun s hs => Nat.le_trans (h2 s hs) (by decide)⟩, draw_ext HZ.out.2.2.2 (HZ.out.2.2.1.trans h4) hg0⟩
  have HR := Lib.hid hres
  clear hres
  go_wp2
  go_loopw [6, 7] (fun v i wr => ∃ (l : List ByteArray) (a2 : Option Addr) (c2 k : Nat), v = .slice a2 l.length c2 ∧ i = .int .i64 k ∧ l.length + k ≤ 6 ∧ shortP l ∧ OwnG layS 9 wr w.heap.size a2 l.length c2 l ∧ Drew w g wr) (fun _ i _ => (intOf i).toNat)
  case atStart =>
    obtain ⟨k, rfl⟩ := Int.eq_ofNat_of_zero_le hx0
    exact ⟨[], _, _, k, rfl, rfl, by simp; omega, ⟨by simp, by decide⟩, HL.out.2, HL.out.1⟩
  case round =>
    obtain ⟨l, a2, c2, k, rfl, rfl, hlk, hls, ho, hD⟩ := hrel
    have HB := Lib.hid hls
    clear hls HL
    by_cases hk : 0 < k
    · have HO := Lib.hid (And.intro ho hD)
      clear ho hD
      go_wp2_with fail
      refine (l01GoodPhrase_any _ _ HO.out.2.1).mono ?_
      rintro e w2o ⟨s, rfl, hsz, hd⟩
      have HD := Lib.hid (And.intro (HO.out.1.drawn hd.2 hg) (HO.out.2.trans hd))
      clear hd
      by_cases hl : 0 < l.length
      · have hli : (0 : Int) < l.length := by omega
        go_wp2_with fail
        refine (l01Next_any _ _ _ HD.out.2.1 (by omega)).mono ?_
        rintro e w2 ⟨y, rfl, hy0, hy1, hd⟩
        replace HD := Lib.hid (And.intro (HD.out.1.drawn hd.grown hg) (HD.out.2.trans hd.drew))
        clear hd
        cases hyy : (y == 0)
        · go_wp2_with (first | (at_builtin; refine wpList_appG layS rfl _ _ 24 9 rfl Tryz.underlying24 (.string ⟨#[]⟩) 16 Tryz.info_string rfl (by decide) w.heap.size _ l.length _ l rfl (HD.out.1.alloc _) _ 1 _ [s] rfl (RdG.new1 layS _ _ _ rfl _) (by omega) (by have := HD.out.2.size; simp; omega) ?_; intro a3 c3 w5 hown hgrow; have HE := Lib.hid (And.intro hown (draw_grow HD.out.1.1 HD.out.2.1 hg (Nat.le_refl _) HD.out.2.2 hgrow)); clear hown hgrow))
          go_roundw
          case rel => exact ⟨l ++ [s], a3, c3, k - 1, by simp, by rw [show ((k : Int) - 1) = ((k - 1 : Nat) : Int) from by omega], by simp; omega, HB.out.snoc (by omega) (fun h => by omega), by simpa using HE.out.1, HE.out.2⟩
          case measure => simp [intOf]; omega
        · have h51 := HB.out.2
          obtain ⟨b, o, rfl, hbl, hA⟩ := HD.out.1.rd.at hl
          have hbB := (HD.out.1.1.lt b (by simp [Value.ownBlock])).1
          have hbg : b ≠ g := by omega
          have hc0 := hA 0 _ (List.getElem?_eq_getElem hl) 0 _ rfl
          rw [← nthS_eq hl] at hc0
          simp only [layS, Nat.zero_mul, Nat.add_zero] at hc0
          have hg2 := HD.out.2.1.lt
          clear hA
          go_wp2
          refine wp_region_any (by kernel_rfl) ?_
          try (change wpAny _ _ _ _ _ _ _ (World.drew _))
          refine takeYes 0 30 ?v1 rfl rfl (by kernel_rfl) (by kernel_rfl) (by kernel_rfl) (fun _ _ _ _ h => h) (by kernel_rfl) ?y1 ?r1
          case y1 => intro w; go_simp; first | done | with_reducible rfl
          simp only [Act.put, List.setIfInBounds_toArray, List.set_cons_zero, List.set_cons_succ]
          refine takeYes 1 31 ?v2 rfl rfl (by kernel_rfl) (by kernel_rfl) (by kernel_rfl) (fun _ _ _ _ h => h) (by kernel_rfl) ?y2 ?r2
          case y2 => intro w; go_simp; first | done | with_reducible rfl
          simp only [Act.put, List.setIfInBounds_toArray, List.set_cons_zero, List.set_cons_succ]
          refine takeYes 4 34 ?v3 rfl rfl (by kernel_rfl) (by kernel_rfl) (by kernel_rfl) (fun _ _ _ _ h => h) (by kernel_rfl) ?y3 ?r3
          case y3 => intro w; go_simp; first | done | with_reducible rfl
          simp only [Act.put, List.setIfInBounds_toArray, List.set_cons_zero, List.set_cons_succ]
          refine wpAny_ready (rs := [2, 3, 5]) (by kernel_rfl) (by simp) ?_
          refine AllReady.cons rfl (fun K hK => ?_) (AllReady.cons rfl (fun K hK => ?_) (AllReady.cons rfl (fun K hK => ?_) AllReady.nil))
          · go_simp
            refine hK _ _ ?_
            clear hK K
            try simp only [Act.put, List.setIfInBounds_toArray, List.set_cons_zero, List.set_cons_succ]
            refine wpAny_ready (rs := [3, 5]) (by kernel_rfl) (by simp) ?_
            refine AllReady.cons rfl (fun K hK => ?_) (AllReady.cons rfl (fun K hK => ?_) AllReady.nil)
            · go_simp
              refine hK _ _ ?_
              clear hK K
              try (obtain ⟨u, hc1, hu⟩ := short_at (xs := #[.string ⟨#[]⟩, .string ⟨#[32, 98, 121]⟩, .string ⟨#[97]⟩, .string ⟨#[32, 97, 115, 104]⟩]) (by kernel_rfl) (k := j) hj; have hc : (w3.alloc (.cells #[.string ⟨#[]⟩, .string ⟨#[32, 98, 121]⟩, .string ⟨#[97]⟩, .string ⟨#[32, 97, 115, 104]⟩] 9)).cell? ⟨w3.heap.size, j, none⟩ = some (.string u) := (World.cell?_alloc_at _ _ _ _ rfl).trans hc1; have hcd := (Below.cell ((Ext.refl w3).alloc (.cells #[.string ⟨#[]⟩, .string ⟨#[32, 98, 121]⟩, .string ⟨#[97]⟩, .string ⟨#[32, 97, 115, 104]⟩] 9)) (p := ⟨b, o, none⟩) hb3).trans hcc; have hxq := (Ext.refl w3).alloc (.cells #[.string ⟨#[]⟩, .string ⟨#[32, 98, 121]⟩, .string ⟨#[97]⟩, .string ⟨#[32, 97, 115, 104]⟩] 9); have p1 : ¬ 9223372036854775807 < (nthS l 0).size + u.size := (by omega); replace HO4 := Lib.hid (HO4.out.ext hxq); replace H4 := Lib.hid (H4.out.ext hxq); generalize w3.alloc (.cells #[.string ⟨#[]⟩, .string ⟨#[32, 98, 121]⟩, .string ⟨#[97]⟩, .string ⟨#[32, 97, 115, 104]⟩] 9) = w3q at HO4 H4 hc hcd hxq ⊢)
              try simp only [Act.put, List.setIfInBounds_toArray, List.set_cons_zero, List.set_cons_succ]
              refine wpAny_ready (rs := [5]) (by kernel_rfl) (by simp) ?_
              refine AllReady.cons rfl (fun K hK => ?_) AllReady.nil
              go_simp
              refine (l01Next_any _ _ _ (by first | exact (HD.out.2.1.ext (Ext.refl _).drew) | exact (HD.out.2.1.ext ((Ext.refl _).drew.alloc _)) | exact (HD.out.2.1.ext ((Ext.refl _).alloc _).drew)) (by omega)).mono ?_
              rintro e w3 ⟨z, rfl, hz0, hz1, hd3⟩
              obtain ⟨j, rfl⟩ := Int.eq_ofNat_of_zero_le hz0
              have hj : j < 4 := by omega
              have hji : (j : Int) < 4 := by omega
              have hd4 : Drew w2 g w3 := by first | exact Drew.pre (Ext.refl _).drew hd3.drew | exact Drew.pre ((Ext.refl _).alloc _).drew hd3.drew
              have H4 := Lib.hid (HD.out.2.trans hd4)
              have HO4 := Lib.hid (HD.out.1.drawn hd4.2 hg)
              have hcc := (hd4.cell (p := ⟨b, o, none⟩) hbl hbg).trans hc0
              have hb3 : b < w3.heap.size := Nat.lt_of_lt_of_le hbl hd4.size
              clear hd4
              try (obtain ⟨u, hc, hu⟩ := Lits.new (n := 4) (Drew.pre (Ext.refl _).drew hd3.drew) hg2 (by kernel_rfl) rfl j hj; (have p1 : ¬ 9223372036854775807 < (nthS l 0).size + u.size := (by omega)))
              clear hd3 hz1
              go_wp2_with fail
              try simp only [Act.put, List.setIfInBounds_toArray, List.set_cons_zero, List.set_cons_succ]
              refine takeYes 6 36 ?v4 rfl rfl (by kernel_rfl) (by kernel_rfl) (by kernel_rfl) (fun _ _ _ _ h => h) (by kernel_rfl) ?y4 ?r4
              case y4 => intro w; go_simp; first | done | with_reducible rfl
              simp only [Act.put, List.setIfInBounds_toArray, List.set_cons_zero, List.set_cons_succ]
              refine wpAny_ready (rs := [7]) (by kernel_rfl) (by simp) ?_
              refine AllReady.cons rfl (fun K hK => ?_) AllReady.nil
              go_simp
              refine hK _ _ ?_
              clear hK K
              try simp only [Act.put, List.setIfInBounds_toArray, List.set_cons_zero, List.set_cons_succ]
              refine takeYes 8 38 ?v5 rfl rfl (by kernel_rfl) (by kernel_rfl) (by kernel_rfl) (fun _ _ _ _ h => h) (by kernel_rfl) ?y5 ?r5
              case y5 => intro w; go_simp; first | done | with_reducible rfl
              simp only [Act.put, List.setIfInBounds_toArray, List.set_cons_zero, List.set_cons_succ]
              refine takeYes 9 8 ?v6 rfl rfl (by kernel_rfl) (by kernel_rfl) (by kernel_rfl) (fun _ _ _ _ h => h) (by kernel_rfl) ?y6 ?r6
              case y6 => intro w; go_simp; first | done | with_reducible rfl
              simp only [Act.put, List.setIfInBounds_toArray, List.set_cons_zero, List.set_cons_succ]
              refine wpAny_done (by kernel_rfl) ?_ _
              go_wp2_with (first | (at_builtin; refine wpList_appG layS rfl _ _ 24 9 rfl Tryz.underlying24 (.string ⟨#[]⟩) 16 Tryz.info_string rfl (by decide) w.heap.size _ l.length _ l rfl (by first | exact HO4.out.alloc _ | exact (HO4.out.ext ((Ext.refl _).alloc _)).alloc _) _ 1 _ [nthS l 0 ++ u] rfl (RdG.new1 layS _ _ _ rfl _) (by omega) (by have := H4.out.size; simp; omega) ?_; intro a3 c3 w5 hown hgrow; have hgr5 : Drew w g w5 := (by first | exact draw_grow HO4.out.1 H4.out.1 hg (Nat.le_refl _) H4.out.2 hgrow | exact draw_grow (HO4.out.ext ((Ext.refl _).alloc _)).1 (H4.out.ext ((Ext.refl _).alloc _)).1 hg (Nat.le_refl _) (H4.out.ext ((Ext.refl _).alloc _)).2 hgrow); have HE := Lib.hid (And.intro hown hgr5); clear hgr5; clear hown hgrow))
              go_roundw
              case rel => exact ⟨l ++ [nthS l 0 ++ u], a3, c3, k - 1, by simp, by rw [show ((k : Int) - 1) = ((k - 1 : Nat) : Int) from by omega], by simp; omega, HB.out.snoc (by rw [ByteArray.size_append]; omega) (fun h => by omega), by simpa using HE.out.1, HE.out.2⟩
              case measure => simp [intOf]; omega
            · go_simp
              refine (l01Next_any _ _ _ (by first | exact (HD.out.2.1.ext (Ext.refl _).drew) | exact (HD.out.2.1.ext ((Ext.refl _).drew.alloc _)) | exact (HD.out.2.1.ext ((Ext.refl _).alloc _).drew)) (by omega)).mono ?_
              rintro e w3 ⟨z, rfl, hz0, hz1, hd3⟩
              obtain ⟨j, rfl⟩ := Int.eq_ofNat_of_zero_le hz0
              have hj : j < 4 := by omega
              have hji : (j : Int) < 4 := by omega
              have hd4 : Drew w2 g w3 := by first | exact Drew.pre (Ext.refl _).drew hd3.drew | exact Drew.pre ((Ext.refl _).alloc _).drew hd3.drew
              have H4 := Lib.hid (HD.out.2.trans hd4)
              have HO4 := Lib.hid (HD.out.1.drawn hd4.2 hg)
              have hcc := (hd4.cell (p := ⟨b, o, none⟩) hbl hbg).trans hc0
              have hb3 : b < w3.heap.size := Nat.lt_of_lt_of_le hbl hd4.size
              clear hd4
              try (obtain ⟨u, hc, hu⟩ := Lits.new (n := 4) (Drew.pre (Ext.refl _).drew hd3.drew) hg2 (by kernel_rfl) rfl j hj; (have p1 : ¬ 9223372036854775807 < (nthS l 0).size + u.size := (by omega)))
              clear hd3 hz1
              go_wp2_with fail
              try simp only [Act.put, List.setIfInBounds_toArray, List.set_cons_zero, List.set_cons_succ]
              refine wpAny_ready (rs := [3]) (by kernel_rfl) (by simp) ?_
              refine AllReady.cons rfl (fun K hK => ?_) AllReady.nil
              go_simp
              refine hK _ _ ?_
              clear hK K
              try (obtain ⟨u, hc1, hu⟩ := short_at (xs := #[.string ⟨#[]⟩, .string ⟨#[32, 98, 121]⟩, .string ⟨#[97]⟩, .string ⟨#[32, 97, 115, 104]⟩]) (by kernel_rfl) (k := j) hj; have hc : (w3.alloc (.cells #[.string ⟨#[]⟩, .string ⟨#[32, 98, 121]⟩, .string ⟨#[97]⟩, .string ⟨#[32, 97, 115, 104]⟩] 9)).cell? ⟨w3.heap.size, j, none⟩ = some (.string u) := (World.cell?_alloc_at _ _ _ _ rfl).trans hc1; have hcd := (Below.cell ((Ext.refl w3).alloc (.cells #[.string ⟨#[]⟩, .string ⟨#[32, 98, 121]⟩, .string ⟨#[97]⟩, .string ⟨#[32, 97, 115, 104]⟩] 9)) (p := ⟨b, o, none⟩) hb3).trans hcc; have hxq := (Ext.refl w3).alloc (.cells #[.string ⟨#[]⟩, .string ⟨#[32, 98, 121]⟩, .string ⟨#[97]⟩, .string ⟨#[32, 97, 115, 104]⟩] 9); have p1 : ¬ 9223372036854775807 < (nthS l 0).size + u.size := (by omega); replace HO4 := Lib.hid (HO4.out.ext hxq); replace H4 := Lib.hid (H4.out.ext hxq); generalize w3.alloc (.cells #[.string ⟨#[]⟩, .string ⟨#[32, 98, 121]⟩, .string ⟨#[97]⟩, .string ⟨#[32, 97, 115, 104]⟩] 9) = w3q at HO4 H4 hc hcd hxq ⊢)
              try simp only [Act.put, List.setIfInBounds_toArray, List.set_cons_zero, List.set_cons_succ]
              refine takeYes 6 36 ?v7 rfl rfl (by kernel_rfl) (by kernel_rfl) (by kernel_rfl) (fun _ _ _ _ h => h) (by kernel_rfl) ?y7 ?r7
              case y7 => intro w; go_simp; first | done | with_reducible rfl
              simp only [Act.put, List.setIfInBounds_toArray, List.set_cons_zero, List.set_cons_succ]
              refine wpAny_ready (rs := [7]) (by kernel_rfl) (by simp) ?_
              refine AllReady.cons rfl (fun K hK => ?_) AllReady.nil
              go_simp
              refine hK _ _ ?_
              clear hK K
              try simp only [Act.put, List.setIfInBounds_toArray, List.set_cons_zero, List.set_cons_succ]
              refine takeYes 8 38 ?v8 rfl rfl (by kernel_rfl) (by kernel_rfl) (by kernel_rfl) (fun _ _ _ _ h => h) (by kernel_rfl) ?y8 ?r8
              case y8 => intro w; go_simp; first | done | with_reducible rfl
              simp only [Act.put, List.setIfInBounds_toArray, List.set_cons_zero, List.set_cons_succ]
              refine takeYes 9 8 ?v9 rfl rfl (by kernel_rfl) (by kernel_rfl) (by kernel_rfl) (fun _ _ _ _ h => h) (by kernel_rfl) ?y9 ?r9
              case y9 => intro w; go_simp; first | done | with_reducible rfl
              simp only [Act.put, List.setIfInBounds_toArray, List.set_cons_zero, List.set_cons_succ]
              refine wpAny_done (by kernel_rfl) ?_ _
              go_wp2_with (first | (at_builtin; refine wpList_appG layS rfl _ _ 24 9 rfl Tryz.underlying24 (.string ⟨#[]⟩) 16 Tryz.info_string rfl (by decide) w.heap.size _ l.length _ l rfl (by first | exact HO4.out.alloc _ | exact (HO4.out.ext ((Ext.refl _).alloc _)).alloc _) _ 1 _ [nthS l 0 ++ u] rfl (RdG.new1 layS _ _ _ rfl _) (by omega) (by have := H4.out.size; simp; omega) ?_; intro a3 c3 w5 hown hgrow; have hgr5 : Drew w g w5 := (by first | exact draw_grow HO4.out.1 H4.out.1 hg (Nat.le_refl _) H4.out.2 hgrow | exact draw_grow (HO4.out.ext ((Ext.refl _).alloc _)).1 (H4.out.ext ((Ext.refl _).alloc _)).1 hg (Nat.le_refl _) (H4.out.ext ((Ext.refl _).alloc _)).2 hgrow); have HE := Lib.hid (And.intro hown hgr5); clear hgr5; clear hown hgrow))
              go_roundw
              case rel => exact ⟨l ++ [nthS l 0 ++ u], a3, c3, k - 1, by simp, by rw [show ((k : Int) - 1) = ((k - 1 : Nat) : Int) from by omega], by simp; omega, HB.out.snoc (by rw [ByteArray.size_append]; omega) (fun h => by omega), by simpa using HE.out.1, HE.out.2⟩
              case measure => simp [intOf]; omega
          · go_simp
            refine hK _ _ ?_
            clear hK K
            try (obtain ⟨u, hc1, hu⟩ := short_at (xs := #[.string ⟨#[]⟩, .string ⟨#[32, 98, 121]⟩, .string ⟨#[97]⟩, .string ⟨#[32, 97, 115, 104]⟩]) (by kernel_rfl) (k := j) hj; have hc : (w3.alloc (.cells #[.string ⟨#[]⟩, .string ⟨#[32, 98, 121]⟩, .string ⟨#[97]⟩, .string ⟨#[32, 97, 115, 104]⟩] 9)).cell? ⟨w3.heap.size, j, none⟩ = some (.string u) := (World.cell?_alloc_at _ _ _ _ rfl).trans hc1; have hcd := (Below.cell ((Ext.refl w3).alloc (.cells #[.string ⟨#[]⟩, .string ⟨#[32, 98, 121]⟩, .string ⟨#[97]⟩, .string ⟨#[32, 97, 115, 104]⟩] 9)) (p := ⟨b, o, none⟩) hb3).trans hcc; have hxq := (Ext.refl w3).alloc (.cells #[.string ⟨#[]⟩, .string ⟨#[32, 98, 121]⟩, .string ⟨#[97]⟩, .string ⟨#[32, 97, 115, 104]⟩] 9); have p1 : ¬ 9223372036854775807 < (nthS l 0).size + u.size := (by omega); replace HO4 := Lib.hid (HO4.out.ext hxq); replace H4 := Lib.hid (H4.out.ext hxq); generalize w3.alloc (.cells #[.string ⟨#[]⟩, .string ⟨#[32, 98, 121]⟩, .string ⟨#[97]⟩, .string ⟨#[32, 97, 115, 104]⟩] 9) = w3q at HO4 H4 hc hcd hxq ⊢)
            try simp only [Act.put, List.setIfInBounds_toArray, List.set_cons_zero, List.set_cons_succ]
            refine wpAny_ready (rs := [2, 5]) (by kernel_rfl) (by simp) ?_
            refine AllReady.cons rfl (fun K hK => ?_) (AllReady.cons rfl (fun K hK => ?_) AllReady.nil)
            · go_simp
              refine hK _ _ ?_
              clear hK K
              try simp only [Act.put, List.setIfInBounds_toArray, List.set_cons_zero, List.set_cons_succ]
              refine wpAny_ready (rs := [5]) (by kernel_rfl) (by simp) ?_
              refine AllReady.cons rfl (fun K hK => ?_) AllReady.nil
              go_simp
              refine (l01Next_any _ _ _ (by first | exact (HD.out.2.1.ext (Ext.refl _).drew) | exact (HD.out.2.1.ext ((Ext.refl _).drew.alloc _)) | exact (HD.out.2.1.ext ((Ext.refl _).alloc _).drew)) (by omega)).mono ?_
              rintro e w3 ⟨z, rfl, hz0, hz1, hd3⟩
              obtain ⟨j, rfl⟩ := Int.eq_ofNat_of_zero_le hz0
              have hj : j < 4 := by omega
              have hji : (j : Int) < 4 := by omega
              have hd4 : Drew w2 g w3 := by first | exact Drew.pre (Ext.refl _).drew hd3.drew | exact Drew.pre ((Ext.refl _).alloc _).drew hd3.drew
              have H4 := Lib.hid (HD.out.2.trans hd4)
              have HO4 := Lib.hid (HD.out.1.drawn hd4.2 hg)
              have hcc := (hd4.cell (p := ⟨b, o, none⟩) hbl hbg).trans hc0
              have hb3 : b < w3.heap.size := Nat.lt_of_lt_of_le hbl hd4.size
              clear hd4
              try (obtain ⟨u, hc, hu⟩ := Lits.new (n := 4) (Drew.pre (Ext.refl _).drew hd3.drew) hg2 (by kernel_rfl) rfl j hj; (have p1 : ¬ 9223372036854775807 < (nthS l 0).size + u.size := (by omega)))
              clear hd3 hz1
              go_wp2_with fail
              try simp only [Act.put, List.setIfInBounds_toArray, List.set_cons_zero, List.set_cons_succ]
              refine takeYes 6 36 ?v10 rfl rfl (by kernel_rfl) (by kernel_rfl) (by kernel_rfl) (fun _ _ _ _ h => h) (by kernel_rfl) ?y10 ?r10
              case y10 => intro w; go_simp; first | done | with_reducible rfl
              simp only [Act.put, List.setIfInBounds_toArray, List.set_cons_zero, List.set_cons_succ]
              refine wpAny_ready (rs := [7]) (by kernel_rfl) (by simp) ?_
              refine AllReady.cons rfl (fun K hK => ?_) AllReady.nil
              go_simp
              refine hK _ _ ?_
              clear hK K
              try simp only [Act.put, List.setIfInBounds_toArray, List.set_cons_zero, List.set_cons_succ]
              refine takeYes 8 38 ?v11 rfl rfl (by kernel_rfl) (by kernel_rfl) (by kernel_rfl) (fun _ _ _ _ h => h) (by kernel_rfl) ?y11 ?r11
              case y11 => intro w; go_simp; first | done | with_reducible rfl
              simp only [Act.put, List.setIfInBounds_toArray, List.set_cons_zero, List.set_cons_succ]
              refine takeYes 9 8 ?v12 rfl rfl (by kernel_rfl) (by kernel_rfl) (by kernel_rfl) (fun _ _ _ _ h => h) (by kernel_rfl) ?y12 ?r12
              case y12 => intro w; go_simp; first | done | with_reducible rfl
              simp only [Act.put, List.setIfInBounds_toArray, List.set_cons_zero, List.set_cons_succ]
              refine wpAny_done (by kernel_rfl) ?_ _
              go_wp2_with (first | (at_builtin; refine wpList_appG layS rfl _ _ 24 9 rfl Tryz.underlying24 (.string ⟨#[]⟩) 16 Tryz.info_string rfl (by decide) w.heap.size _ l.length _ l rfl (by first | exact HO4.out.alloc _ | exact (HO4.out.ext ((Ext.refl _).alloc _)).alloc _) _ 1 _ [nthS l 0 ++ u] rfl (RdG.new1 layS _ _ _ rfl _) (by omega) (by have := H4.out.size; simp; omega) ?_; intro a3 c3 w5 hown hgrow; have hgr5 : Drew w g w5 := (by first | exact draw_grow HO4.out.1 H4.out.1 hg (Nat.le_refl _) H4.out.2 hgrow | exact draw_grow (HO4.out.ext ((Ext.refl _).alloc _)).1 (H4.out.ext ((Ext.refl _).alloc _)).1 hg (Nat.le_refl _) (H4.out.ext ((Ext.refl _).alloc _)).2 hgrow); have HE := Lib.hid (And.intro hown hgr5); clear hgr5; clear hown hgrow))
              go_roundw
              case rel => exact ⟨l ++ [nthS l 0 ++ u], a3, c3, k - 1, by simp, by rw [show ((k : Int) - 1) = ((k - 1 : Nat) : Int) from by omega], by simp; omega, HB.out.snoc (by rw [ByteArray.size_append]; omega) (fun h => by omega), by simpa using HE.out.1, HE.out.2⟩
              case measure => simp [intOf]; omega
            · go_simp
              refine (l01Next_any _ _ _ (by first | exact (HD.out.2.1.ext (Ext.refl _).drew) | exact (HD.out.2.1.ext ((Ext.refl _).drew.alloc _)) | exact (HD.out.2.1.ext ((Ext.refl _).alloc _).drew)) (by omega)).mono ?_
              rintro e w3 ⟨z, rfl, hz0, hz1, hd3⟩
              obtain ⟨j, rfl⟩ := Int.eq_ofNat_of_zero_le hz0
              have hj : j < 4 := by omega
              have hji : (j : Int) < 4 := by omega
              have hd4 : Drew w2 g w3 := by first | exact Drew.pre (Ext.refl _).drew hd3.drew | exact Drew.pre ((Ext.refl _).alloc _).drew hd3.drew
              have H4 := Lib.hid (HD.out.2.trans hd4)
              have HO4 := Lib.hid (HD.out.1.drawn hd4.2 hg)
              have hcc := (hd4.cell (p := ⟨b, o, none⟩) hbl hbg).trans hc0
              have hb3 : b < w3.heap.size := Nat.lt_of_lt_of_le hbl hd4.size
              clear hd4
              try (obtain ⟨u, hc, hu⟩ := Lits.new (n := 4) (Drew.pre (Ext.refl _).drew hd3.drew) hg2 (by kernel_rfl) rfl j hj; (have p1 : ¬ 9223372036854775807 < (nthS l 0).size + u.size := (by omega)))
              clear hd3 hz1
              go_wp2_with fail
              try simp only [Act.put, List.setIfInBounds_toArray, List.set_cons_zero, List.set_cons_succ]
              refine takeYes 6 36 ?v13 rfl rfl (by kernel_rfl) (by kernel_rfl) (by kernel_rfl) (fun _ _ _ _ h => h) (by kernel_rfl) ?y13 ?r13
              case y13 => intro w; go_simp; first | done | with_reducible rfl
              simp only [Act.put, List.setIfInBounds_toArray, List.set_cons_zero, List.set_cons_succ]
              refine wpAny_ready (rs := [2, 7]) (by kernel_rfl) (by simp) ?_
              refine AllReady.cons rfl (fun K hK => ?_) (AllReady.cons rfl (fun K hK => ?_) AllReady.nil)
              · go_simp
                refine hK _ _ ?_
                clear hK K
                try simp only [Act.put, List.setIfInBounds_toArray, List.set_cons_zero, List.set_cons_succ]
                refine wpAny_ready (rs := [7]) (by kernel_rfl) (by simp) ?_
                refine AllReady.cons rfl (fun K hK => ?_) AllReady.nil
                go_simp
                refine hK _ _ ?_
                clear hK K
                try simp only [Act.put, List.setIfInBounds_toArray, List.set_cons_zero, List.set_cons_succ]
                refine takeYes 8 38 ?v14 rfl rfl (by kernel_rfl) (by kernel_rfl) (by kernel_rfl) (fun _ _ _ _ h => h) (by kernel_rfl) ?y14 ?r14
                case y14 => intro w; go_simp; first | done | with_reducible rfl
                simp only [Act.put, List.setIfInBounds_toArray, List.set_cons_zero, List.set_cons_succ]
                refine takeYes 9 8 ?v15 rfl rfl (by kernel_rfl) (by kernel_rfl) (by kernel_rfl) (fun _ _ _ _ h => h) (by kernel_rfl) ?y15 ?r15
                case y15 => intro w; go_simp; first | done | with_reducible rfl
                simp only [Act.put, List.setIfInBounds_toArray, List.set_cons_zero, List.set_cons_succ]
                refine wpAny_done (by kernel_rfl) ?_ _
                go_wp2_with (first | (at_builtin; refine wpList_appG layS rfl _ _ 24 9 rfl Tryz.underlying24 (.string ⟨#[]⟩) 16 Tryz.info_string rfl (by decide) w.heap.size _ l.length _ l rfl (by first | exact HO4.out.alloc _ | exact (HO4.out.ext ((Ext.refl _).alloc _)).alloc _) _ 1 _ [nthS l 0 ++ u] rfl (RdG.new1 layS _ _ _ rfl _) (by omega) (by have := H4.out.size; simp; omega) ?_; intro a3 c3 w5 hown hgrow; have hgr5 : Drew w g w5 := (by first | exact draw_grow HO4.out.1 H4.out.1 hg (Nat.le_refl _) H4.out.2 hgrow | exact draw_grow (HO4.out.ext ((Ext.refl _).alloc _)).1 (H4.out.ext ((Ext.refl _).alloc _)).1 hg (Nat.le_refl _) (H4.out.ext ((Ext.refl _).alloc _)).2 hgrow); have HE := Lib.hid (And.intro hown hgr5); clear hgr5; clear hown hgrow))
                go_roundw
                case rel => exact ⟨l ++ [nthS l 0 ++ u], a3, c3, k - 1, by simp, by rw [show ((k : Int) - 1) = ((k - 1 : Nat) : Int) from by omega], by simp; omega, HB.out.snoc (by rw [ByteArray.size_append]; omega) (fun h => by omega), by simpa using HE.out.1, HE.out.2⟩
                case measure => simp [intOf]; omega
              · go_simp
                refine hK _ _ ?_
                clear hK K
                try simp only [Act.put, List.setIfInBounds_toArray, List.set_cons_zero, List.set_cons_succ]
                refine wpAny_ready (rs := [2]) (by kernel_rfl) (by simp) ?_
                refine AllReady.cons rfl (fun K hK => ?_) AllReady.nil
                go_simp
                refine hK _ _ ?_
                clear hK K
                try simp only [Act.put, List.setIfInBounds_toArray, List.set_cons_zero, List.set_cons_succ]
                refine takeYes 8 38 ?v16 rfl rfl (by kernel_rfl) (by kernel_rfl) (by kernel_rfl) (fun _ _ _ _ h => h) (by kernel_rfl) ?y16 ?r16
                case y16 => intro w; go_simp; first | done | with_reducible rfl
                simp only [Act.put, List.setIfInBounds_toArray, List.set_cons_zero, List.set_cons_succ]
                refine takeYes 9 8 ?v17 rfl rfl (by kernel_rfl) (by kernel_rfl) (by kernel_rfl) (fun _ _ _ _ h => h) (by kernel_rfl) ?y17 ?r17
                case y17 => intro w; go_simp; first | done | with_reducible rfl
                simp only [Act.put, List.setIfInBounds_toArray, List.set_cons_zero, List.set_cons_succ]
                refine wpAny_done (by kernel_rfl) ?_ _
                go_wp2_with (first | (at_builtin; refine wpList_appG layS rfl _ _ 24 9 rfl Tryz.underlying24 (.string ⟨#[]⟩) 16 Tryz.info_string rfl (by decide) w.heap.size _ l.length _ l rfl (by first | exact HO4.out.alloc _ | exact (HO4.out.ext ((Ext.refl _).alloc _)).alloc _) _ 1 _ [nthS l 0 ++ u] rfl (RdG.new1 layS _ _ _ rfl _) (by omega) (by have := H4.out.size; simp; omega) ?_; intro a3 c3 w5 hown hgrow; have hgr5 : Drew w g w5 := (by first | exact draw_grow HO4.out.1 H4.out.1 hg (Nat.le_refl _) H4.out.2 hgrow | exact draw_grow (HO4.out.ext ((Ext.refl _).alloc _)).1 (H4.out.ext ((Ext.refl _).alloc _)).1 hg (Nat.le_refl _) (H4.out.ext ((Ext.refl _).alloc _)).2 hgrow); have HE := Lib.hid (And.intro hown hgr5); clear hgr5; clear hown hgrow))
                go_roundw
                case rel => exact ⟨l ++ [nthS l 0 ++ u], a3, c3, k - 1, by simp, by rw [show ((k : Int) - 1) = ((k - 1 : Nat) : Int) from by omega], by simp; omega, HB.out.snoc (by rw [ByteArray.size_append]; omega) (fun h => by omega), by simpa using HE.out.1, HE.out.2⟩
                case measure => simp [intOf]; omega
          · go_simp
            refine (l01Next_any _ _ _ (by first | exact (HD.out.2.1.ext (Ext.refl _).drew) | exact (HD.out.2.1.ext ((Ext.refl _).drew.alloc _)) | exact (HD.out.2.1.ext ((Ext.refl _).alloc _).drew)) (by omega)).mono ?_
            rintro e w3 ⟨z, rfl, hz0, hz1, hd3⟩
            obtain ⟨j, rfl⟩ := Int.eq_ofNat_of_zero_le hz0
            have hj : j < 4 := by omega
            have hji : (j : Int) < 4 := by omega
            have hd4 : Drew w2 g w3 := by first | exact Drew.pre (Ext.refl _).drew hd3.drew | exact Drew.pre ((Ext.refl _).alloc _).drew hd3.drew
            have H4 := Lib.hid (HD.out.2.trans hd4)
            have HO4 := Lib.hid (HD.out.1.drawn hd4.2 hg)
            have hcc := (hd4.cell (p := ⟨b, o, none⟩) hbl hbg).trans hc0
            have hb3 : b < w3.heap.size := Nat.lt_of_lt_of_le hbl hd4.size
            clear hd4
            try (obtain ⟨u, hc, hu⟩ := Lits.new (n := 4) (Drew.pre (Ext.refl _).drew hd3.drew) hg2 (by kernel_rfl) rfl j hj; (have p1 : ¬ 9223372036854775807 < (nthS l 0).size + u.size := (by omega)))
            clear hd3 hz1
            go_wp2_with fail
            try simp only [Act.put, List.setIfInBounds_toArray, List.set_cons_zero, List.set_cons_succ]
            refine wpAny_ready (rs := [2, 3]) (by kernel_rfl) (by simp) ?_
            refine AllReady.cons rfl (fun K hK => ?_) (AllReady.cons rfl (fun K hK => ?_) AllReady.nil)
            · go_simp
              refine hK _ _ ?_
              clear hK K
              try simp only [Act.put, List.setIfInBounds_toArray, List.set_cons_zero, List.set_cons_succ]
              refine wpAny_ready (rs := [3]) (by kernel_rfl) (by simp) ?_
              refine AllReady.cons rfl (fun K hK => ?_) AllReady.nil
              go_simp
              refine hK _ _ ?_
              clear hK K
              try (obtain ⟨u, hc1, hu⟩ := short_at (xs := #[.string ⟨#[]⟩, .string ⟨#[32, 98, 121]⟩, .string ⟨#[97]⟩, .string ⟨#[32, 97, 115, 104]⟩]) (by kernel_rfl) (k := j) hj; have hc : (w3.alloc (.cells #[.string ⟨#[]⟩, .string ⟨#[32, 98, 121]⟩, .string ⟨#[97]⟩, .string ⟨#[32, 97, 115, 104]⟩] 9)).cell? ⟨w3.heap.size, j, none⟩ = some (.string u) := (World.cell?_alloc_at _ _ _ _ rfl).trans hc1; have hcd := (Below.cell ((Ext.refl w3).alloc (.cells #[.string ⟨#[]⟩, .string ⟨#[32, 98, 121]⟩, .string ⟨#[97]⟩, .string ⟨#[32, 97, 115, 104]⟩] 9)) (p := ⟨b, o, none⟩) hb3).trans hcc; have hxq := (Ext.refl w3).alloc (.cells #[.string ⟨#[]⟩, .string ⟨#[32, 98, 121]⟩, .string ⟨#[97]⟩, .string ⟨#[32, 97, 115, 104]⟩] 9); have p1 : ¬ 9223372036854775807 < (nthS l 0).size + u.size := (by omega); replace HO4 := Lib.hid (HO4.out.ext hxq); replace H4 := Lib.hid (H4.out.ext hxq); generalize w3.alloc (.cells #[.string ⟨#[]⟩, .string ⟨#[32, 98, 121]⟩, .string ⟨#[97]⟩, .string ⟨#[32, 97, 115, 104]⟩] 9) = w3q at HO4 H4 hc hcd hxq ⊢)
              try simp only [Act.put, List.setIfInBounds_toArray, List.set_cons_zero, List.set_cons_succ]
              refine takeYes 6 36 ?v18 rfl rfl (by kernel_rfl) (by kernel_rfl) (by kernel_rfl) (fun _ _ _ _ h => h) (by kernel_rfl) ?y18 ?r18
              case y18 => intro w; go_simp; first | done | with_reducible rfl
              simp only [Act.put, List.setIfInBounds_toArray, List.set_cons_zero, List.set_cons_succ]
              refine wpAny_ready (rs := [7]) (by kernel_rfl) (by simp) ?_
              refine AllReady.cons rfl (fun K hK => ?_) AllReady.nil
              go_simp
              refine hK _ _ ?_
              clear hK K
              try simp only [Act.put, List.setIfInBounds_toArray, List.set_cons_zero, List.set_cons_succ]
              refine takeYes 8 38 ?v19 rfl rfl (by kernel_rfl) (by kernel_rfl) (by kernel_rfl) (fun _ _ _ _ h => h) (by kernel_rfl) ?y19 ?r19
              case y19 => intro w; go_simp; first | done | with_reducible rfl
              simp only [Act.put, List.setIfInBounds_toArray, List.set_cons_zero, List.set_cons_succ]
              refine takeYes 9 8 ?v20 rfl rfl (by kernel_rfl) (by kernel_rfl) (by kernel_rfl) (fun _ _ _ _ h => h) (by kernel_rfl) ?y20 ?r20
              case y20 => intro w; go_simp; first | done | with_reducible rfl
              simp only [Act.put, List.setIfInBounds_toArray, List.set_cons_zero, List.set_cons_succ]
              refine wpAny_done (by kernel_rfl) ?_ _
              go_wp2_with (first | (at_builtin; refine wpList_appG layS rfl _ _ 24 9 rfl Tryz.underlying24 (.string ⟨#[]⟩) 16 Tryz.info_string rfl (by decide) w.heap.size _ l.length _ l rfl (by first | exact HO4.out.alloc _ | exact (HO4.out.ext ((Ext.refl _).alloc _)).alloc _) _ 1 _ [nthS l 0 ++ u] rfl (RdG.new1 layS _ _ _ rfl _) (by omega) (by have := H4.out.size; simp; omega) ?_; intro a3 c3 w5 hown hgrow; have hgr5 : Drew w g w5 := (by first | exact draw_grow HO4.out.1 H4.out.1 hg (Nat.le_refl _) H4.out.2 hgrow | exact draw_grow (HO4.out.ext ((Ext.refl _).alloc _)).1 (H4.out.ext ((Ext.refl _).alloc _)).1 hg (Nat.le_refl _) (H4.out.ext ((Ext.refl _).alloc _)).2 hgrow); have HE := Lib.hid (And.intro hown hgr5); clear hgr5; clear hown hgrow))
              go_roundw
              case rel => exact ⟨l ++ [nthS l 0 ++ u], a3, c3, k - 1, by simp, by rw [show ((k : Int) - 1) = ((k - 1 : Nat) : Int) from by omega], by simp; omega, HB.out.snoc (by rw [ByteArray.size_append]; omega) (fun h => by omega), by simpa using HE.out.1, HE.out.2⟩
              case measure => simp [intOf]; omega
            · go_simp
              refine hK _ _ ?_
              clear hK K
              try (obtain ⟨u, hc1, hu⟩ := short_at (xs := #[.string ⟨#[]⟩, .string ⟨#[32, 98, 121]⟩, .string ⟨#[97]⟩, .string ⟨#[32, 97, 115, 104]⟩]) (by kernel_rfl) (k := j) hj; have hc : (w3.alloc (.cells #[.string ⟨#[]⟩, .string ⟨#[32, 98, 121]⟩, .string ⟨#[97]⟩, .string ⟨#[32, 97, 115, 104]⟩] 9)).cell? ⟨w3.heap.size, j, none⟩ = some (.string u) := (World.cell?_alloc_at _ _ _ _ rfl).trans hc1; have hcd := (Below.cell ((Ext.refl w3).alloc (.cells #[.string ⟨#[]⟩, .string ⟨#[32, 98, 121]⟩, .string ⟨#[97]⟩, .string ⟨#[32, 97, 115, 104]⟩] 9)) (p := ⟨b, o, none⟩) hb3).trans hcc; have hxq := (Ext.refl w3).alloc (.cells #[.string ⟨#[]⟩, .string ⟨#[32, 98, 121]⟩, .string ⟨#[97]⟩, .string ⟨#[32, 97, 115, 104]⟩] 9); have p1 : ¬ 9223372036854775807 < (nthS l 0).size + u.size := (by omega); replace HO4 := Lib.hid (HO4.out.ext hxq); replace H4 := Lib.hid (H4.out.ext hxq); generalize w3.alloc (.cells #[.string ⟨#[]⟩, .string ⟨#[32, 98, 121]⟩, .string ⟨#[97]⟩, .string ⟨#[32, 97, 115, 104]⟩] 9) = w3q at HO4 H4 hc hcd hxq ⊢)
              try simp only [Act.put, List.setIfInBounds_toArray, List.set_cons_zero, List.set_cons_succ]
              refine takeYes 6 36 ?v21 rfl rfl (by kernel_rfl) (by kernel_rfl) (by kernel_rfl) (fun _ _ _ _ h => h) (by kernel_rfl) ?y21 ?r21
              case y21 => intro w; go_simp; first | done | with_reducible rfl
              simp only [Act.put, List.setIfInBounds_toArray, List.set_cons_zero, List.set_cons_succ]
              refine wpAny_ready (rs := [2, 7]) (by kernel_rfl) (by simp) ?_
              refine AllReady.cons rfl (fun K hK => ?_) (AllReady.cons rfl (fun K hK => ?_) AllReady.nil)
              · go_simp
                refine hK _ _ ?_
                clear hK K
                try simp only [Act.put, List.setIfInBounds_toArray, List.set_cons_zero, List.set_cons_succ]
                refine wpAny_ready (rs := [7]) (by kernel_rfl) (by simp) ?_
                refine AllReady.cons rfl (fun K hK => ?_) AllReady.nil
                go_simp
                refine hK _ _ ?_
                clear hK K
                try simp only [Act.put, List.setIfInBounds_toArray, List.set_cons_zero, List.set_cons_succ]
                refine takeYes 8 38 ?v22 rfl rfl (by kernel_rfl) (by kernel_rfl) (by kernel_rfl) (fun _ _ _ _ h => h) (by kernel_rfl) ?y22 ?r22
                case y22 => intro w; go_simp; first | done | with_reducible rfl
                simp only [Act.put, List.setIfInBounds_toArray, List.set_cons_zero, List.set_cons_succ]
                refine takeYes 9 8 ?v23 rfl rfl (by kernel_rfl) (by kernel_rfl) (by kernel_rfl) (fun _ _ _ _ h => h) (by kernel_rfl) ?y23 ?r23
                case y23 => intro w; go_simp; first | done | with_reducible rfl
                simp only [Act.put, List.setIfInBounds_toArray, List.set_cons_zero, List.set_cons_succ]
                refine wpAny_done (by kernel_rfl) ?_ _
                go_wp2_with (first | (at_builtin; refine wpList_appG layS rfl _ _ 24 9 rfl Tryz.underlying24 (.string ⟨#[]⟩) 16 Tryz.info_string rfl (by decide) w.heap.size _ l.length _ l rfl (by first | exact HO4.out.alloc _ | exact (HO4.out.ext ((Ext.refl _).alloc _)).alloc _) _ 1 _ [nthS l 0 ++ u] rfl (RdG.new1 layS _ _ _ rfl _) (by omega) (by have := H4.out.size; simp; omega) ?_; intro a3 c3 w5 hown hgrow; have hgr5 : Drew w g w5 := (by first | exact draw_grow HO4.out.1 H4.out.1 hg (Nat.le_refl _) H4.out.2 hgrow | exact draw_grow (HO4.out.ext ((Ext.refl _).alloc _)).1 (H4.out.ext ((Ext.refl _).alloc _)).1 hg (Nat.le_refl _) (H4.out.ext ((Ext.refl _).alloc _)).2 hgrow); have HE := Lib.hid (And.intro hown hgr5); clear hgr5; clear hown hgrow))
                go_roundw
                case rel => exact ⟨l ++ [nthS l 0 ++ u], a3, c3, k - 1, by simp, by rw [show ((k : Int) - 1) = ((k - 1 : Nat) : Int) from by omega], by simp; omega, HB.out.snoc (by rw [ByteArray.size_append]; omega) (fun h => by omega), by simpa using HE.out.1, HE.out.2⟩
                case measure => simp [intOf]; omega
              · go_simp
                refine hK _ _ ?_
                clear hK K
                try simp only [Act.put, List.setIfInBounds_toArray, List.set_cons_zero, List.set_cons_succ]
                refine wpAny_ready (rs := [2]) (by kernel_rfl) (by simp) ?_
                refine AllReady.cons rfl (fun K hK => ?_) AllReady.nil
                go_simp
                refine hK _ _ ?_
                clear hK K
                try simp only [Act.put, List.setIfInBounds_toArray, List.set_cons_zero, List.set_cons_succ]
                refine takeYes 8 38 ?v24 rfl rfl (by kernel_rfl) (by kernel_rfl) (by kernel_rfl) (fun _ _ _ _ h => h) (by kernel_rfl) ?y24 ?r24
                case y24 => intro w; go_simp; first | done | with_reducible rfl
                simp only [Act.put, List.setIfInBounds_toArray, List.set_cons_zero, List.set_cons_succ]
                refine takeYes 9 8 ?v25 rfl rfl (by kernel_rfl) (by kernel_rfl) (by kernel_rfl) (fun _ _ _ _ h => h) (by kernel_rfl) ?y25 ?r25
                case y25 => intro w; go_simp; first | done | with_reducible rfl
                simp only [Act.put, List.setIfInBounds_toArray, List.set_cons_zero, List.set_cons_succ]
                refine wpAny_done (by kernel_rfl) ?_ _
                go_wp2_with (first | (at_builtin; refine wpList_appG layS rfl _ _ 24 9 rfl Tryz.underlying24 (.string ⟨#[]⟩) 16 Tryz.info_string rfl (by decide) w.heap.size _ l.length _ l rfl (by first | exact HO4.out.alloc _ | exact (HO4.out.ext ((Ext.refl _).alloc _)).alloc _) _ 1 _ [nthS l 0 ++ u] rfl (RdG.new1 layS _ _ _ rfl _) (by omega) (by have := H4.out.size; simp; omega) ?_; intro a3 c3 w5 hown hgrow; have hgr5 : Drew w g w5 := (by first | exact draw_grow HO4.out.1 H4.out.1 hg (Nat.le_refl _) H4.out.2 hgrow | exact draw_grow (HO4.out.ext ((Ext.refl _).alloc _)).1 (H4.out.ext ((Ext.refl _).alloc _)).1 hg (Nat.le_refl _) (H4.out.ext ((Ext.refl _).alloc _)).2 hgrow); have HE := Lib.hid (And.intro hown hgr5); clear hgr5; clear hown hgrow))
                go_roundw
                case rel => exact ⟨l ++ [nthS l 0 ++ u], a3, c3, k - 1, by simp, by rw [show ((k : Int) - 1) = ((k - 1 : Nat) : Int) from by omega], by simp; omega, HB.out.snoc (by rw [ByteArray.size_append]; omega) (fun h => by omega), by simpa using HE.out.1, HE.out.2⟩
                case measure => simp [intOf]; omega
      · obtain rfl : l = [] := List.eq_nil_of_length_eq_zero (by omega)
        have hsz2 := hsz
        simp only [List.length_nil] at HD hl hlk
        go_wp2_with (first | (at_builtin; refine wpList_appG layS rfl _ _ 24 9 rfl Tryz.underlying24 (.string ⟨#[]⟩) 16 Tryz.info_string rfl (by decide) w.heap.size _ 0 _ [] rfl (HD.out.1.alloc _) _ 1 _ [s] rfl (RdG.new1 layS _ _ _ rfl _) (by omega) (by have := HD.out.2.size; simp; omega) ?_; intro a3 c3 w5 hown hgrow; have HE := Lib.hid (And.intro hown (draw_grow HD.out.1.1 HD.out.2.1 hg (Nat.le_refl _) HD.out.2.2 hgrow)); clear hown hgrow))
        go_roundw
        case rel => exact ⟨[] ++ [s], a3, c3, k - 1, by simp, by rw [show ((k : Int) - 1) = ((k - 1 : Nat) : Int) from by omega], by simp; omega, HB.out.snoc (by omega) (fun _ => hsz2), by simpa using HE.out.1, HE.out.2⟩
        case measure => simp [intOf]; omega
    · have HO := Lib.hid (And.intro ho hD)
      clear ho hD
      go_wp2_with fail
      refine (l01Next_any _ _ _ HO.out.2.1 (by omega)).mono ?_
      rintro e w2 ⟨y, rfl, hy0, hy1, hd⟩
      have H2 := Lib.hid (And.intro (HO.out.1.drawn hd.grown hg) (HO.out.2.trans hd.drew))
      clear hd HO
      have HB1 := Lib.hid HB.out.1
      clear HB
      by_cases y0 : y = 0
      · subst y0
        go_wp2_with fail
        refine (l01DrawPhrase_any _ _ H2.out.2.1).mono ?_
        rintro e w3 ⟨s, rfl, hsz, hd⟩
        have H3 := Lib.hid (And.intro (H2.out.1.drawn hd.2 hg) (H2.out.2.trans hd))
        clear hd
        go_wp2_with (first | (at_builtin; refine wpList_appG layS rfl _ _ 24 9 rfl Tryz.underlying24 (.string ⟨#[]⟩) 16 Tryz.info_string rfl (by decide) w.heap.size _ l.length _ l rfl (H3.out.1.alloc _) _ 1 _ [s] rfl (RdG.new1 layS _ _ _ rfl _) (by omega) (by have := H3.out.2.size; simp; omega) ?_; intro a3 c3 w5 hown hgrow; have HE := Lib.hid (And.intro hown (draw_grow H3.out.1.1 H3.out.2.1 hg (Nat.le_refl _) H3.out.2.2 hgrow)); clear hown hgrow))
        go_ret2
        have hF := HR.out a3 c3 (l ++ [s]) w5 (by simp; omega) (fun q hq => (List.mem_append.1 hq).elim (HB1.out q) (fun h => by rw [List.mem_singleton.1 h]; exact hsz)) (by simpa using HE.out.1) HE.out.2
        simp only [List.length_append, List.length_cons, List.length_nil] at hF
        exact hF
      by_cases y1 : y = 1
      · subst y1
        go_wp2
        go_loopw [6] (fun v wr => ∃ (l : List ByteArray) (a2 : Option Addr) (c2 : Nat), v = .slice a2 l.length c2 ∧ l.length ≤ 21 ∧ (∀ s ∈ l, s.size ≤ 217) ∧ OwnG layS 9 wr w.heap.size a2 l.length c2 l ∧ Drew w g wr) (fun v _ => 21 - lenV v)
        case atStart => exact ⟨l, a2, c2, rfl, by omega, HB1.out, H2.out.1, H2.out.2⟩
        case round =>
          obtain ⟨l, a2, c2, rfl, hl21, hls, ho, hD⟩ := hrel
          have HO := Lib.hid (And.intro hls (And.intro ho hD))
          clear hls ho hD H2
          go_wp2_with fail
          refine (l01Next_any _ _ _ HO.out.2.2.1 (by omega)).mono ?_
          rintro e w3 ⟨z, rfl, hz0, hz1, hd⟩
          have H3 := Lib.hid (And.intro (HO.out.2.1.drawn hd.grown hg) (HO.out.2.2.trans hd.drew))
          clear hd
          by_cases hlz : (l.length : Int) < 20 + z
          · go_wp2_with (first | (at_builtin; refine wpList_appG layS rfl _ _ 24 9 rfl Tryz.underlying24 (.string ⟨#[]⟩) 16 Tryz.info_string rfl (by decide) w.heap.size _ l.length _ l rfl (H3.out.1.alloc _) _ 1 _ [_] rfl (RdG.new1 layS _ _ _ rfl _) (by omega) (by have := H3.out.2.size; simp; omega) ?_; intro a3 c3 w5 hown hgrow; have HE := Lib.hid (And.intro hown (draw_grow H3.out.1.1 H3.out.2.1 hg (Nat.le_refl _) H3.out.2.2 hgrow)); clear hown hgrow))
            go_roundw
            case rel => exact ⟨l ++ [⟨#[97, 115, 104]⟩], a3, c3, by simp, by simp; omega, (fun q hq => (List.mem_append.1 hq).elim (HO.out.1 q) (fun h => by rw [List.mem_singleton.1 h]; decide)), by simpa using HE.out.1, HE.out.2⟩
            case measure => simp [lenV]; omega
          · go_wp2
            go_ret2
            exact HR.out _ _ l _ (by omega) HO.out.1 H3.out.1 H3.out.2
      · go_wp2
        go_ret2
        exact HR.out _ _ l _ (by omega) HB1.out H2.out.1 H2.out.2

set_option maxRecDepth 100000 in
set_option maxHeartbeats 1000000 in
theorem drawSortPhrases_any (a : Option Addr) (n c : Nat) (bs : List Int) (w : World) (hr : RdBy w a n bs) :
    Calls Tryz.prog 5 #[.slice a n c] w (DrewSP w) := by
  go_enter Tryz.func5, Tryz.ntmps5
  go_wp2_with fail
  refine (l01From_any _ _ _ _ _ hr).mono ?_
  rintro e w1 ⟨g, rfl, hg0, hs, x1⟩
  have hg1 := hs.lt
  have hsz1 := x1.size
  have H1 := Lib.hid (And.intro hs (And.intro x1 (hr.ext x1)))
  clear hs x1
  go_wp2_with fail
  refine (l06List_any _ _ _ _ _ H1.out.2.2).mono ?_
  rintro e w2 ⟨a1, c1, ss, a2, c2, ls, rfl, hl42, o1, _, o2, x2⟩
  have H2 := Lib.hid (And.intro o1 (And.intro o2 (And.intro (H1.out.1.ext x2) (H1.out.2.1.trans x2))))
  have hsz2 := x2.size
  clear o1 o2 x2
  go_wp2_with fail
  refine (l06Ignored_any _ _ _ _ _ H2.out.2.2.1 (by omega)).mono ?_
  rintro e w3 ⟨a3, c3, zs, rfl, o3, d3⟩
  have H3 := Lib.hid (And.intro o3 d3)
  clear o3 d3
  go_wp2
  go_ret3
  exact ⟨a1, c1, ss, a2, c2, ls, a3, c3, zs, rfl, ⟨(H2.out.1.1.drawn H3.out.2.2 hg1).mono hsz1, H2.out.1.2⟩, ⟨(H2.out.2.1.1.drawn H3.out.2.2 hg1).mono hsz1, H2.out.2.1.2⟩, H3.out.1.mono (Nat.le_trans hsz1 hsz2), draw_ext H2.out.2.2.2 H3.out.2 hg0⟩

set_option maxRecDepth 100000 in
set_option maxHeartbeats 1000000 in
theorem drawAreSorted_any (a : Option Addr) (n c : Nat) (bs : List Int) (w : World) (hr : RdBy w a n bs) :
    Calls Tryz.prog 8 #[.slice a n c] w (DrewSP w) := by
  go_enter Tryz.func8, Tryz.ntmps8
  go_wp2_with fail
  refine (l01From_any _ _ _ _ _ hr).mono ?_
  rintro e w1 ⟨g, rfl, hg0, hs, x1⟩
  have hg1 := hs.lt
  have hsz1 := x1.size
  have H1 := Lib.hid (And.intro hs (And.intro x1 (hr.ext x1)))
  clear hs x1
  go_wp2_with fail
  refine (drawSortPhrases_any _ _ _ _ _ H1.out.2.2).mono ?_
  rintro e w2 ⟨a1, c1, ss, a2, c2, ls, a3, c3, zs, rfl, o1, o2, o3, x2⟩
  have H2 := Lib.hid (And.intro o1 (And.intro o2 (And.intro o3 (And.intro (H1.out.1.ext x2) (H1.out.2.1.trans x2)))))
  have hsz2 := x2.size
  clear o1 o2 o3 x2
  go_wp2_with fail
  refine (specSortPhrases_any _ _ _ _ _ _ _ _ _ _ _ _ _ H2.out.1.rd H2.out.2.1.rd H2.out.2.2.1.rd).mono ?_
  rintro e w3 ⟨v3, rfl, a4, n4, c4, rfl, hn4, o4, x3⟩
  have hln4 := o4.rd.len
  have H3 := Lib.hid (And.intro (H2.out.1.ext x3) (And.intro (H2.out.2.1.ext x3) (And.intro (H2.out.2.2.1.ext x3) (And.intro (H2.out.2.2.2.1.ext x3) (And.intro (H2.out.2.2.2.2.trans x3) o4)))))
  have hsz3 := x3.size
  clear o4 x3 H2
  have hno : ∀ (w' : World), Drew w3 g w' → DrewSP w (.returned (.tuple #[.slice a1 ss.length c1, .slice a2 ls.length c2, .slice a3 zs.length c3])) w' := fun w' hd =>
    ⟨a1, c1, ss, a2, c2, ls, a3, c3, zs, rfl, ⟨(H3.out.1.1.drawn hd.2 hg1).mono hsz1, H3.out.1.2⟩, ⟨(H3.out.2.1.1.drawn hd.2 hg1).mono hsz1, H3.out.2.1.2⟩, (H3.out.2.2.1.drawn hd.2 hg1).mono hsz1, draw_ext H3.out.2.2.2.2.1 hd hg0⟩
  have HN := Lib.hid hno
  clear hno
  cases hc : (codeL ss ls zs == 0)
  · go_wp2
    go_ret3
    exact HN.out _ (Drew.of_ext H3.out.2.2.2.1 (Ext.refl _))
  · go_wp2_with fail
    refine (l01Next_any _ _ _ H3.out.2.2.2.1 (by omega)).mono ?_
    rintro e w4 ⟨y, rfl, hy0, hy1, hd⟩
    have H4 := Lib.hid hd.drew
    clear hd
    cases hyy : (y == 0)
    · go_wp2
      go_ret3
      exact HN.out _ H4.out
    · go_wp2
      go_ret3
      subst hln4
      exact ⟨a1, c1, ss, a4, c4, soL ss ls zs, a3, c3, zs, rfl, ⟨(H3.out.1.1.drawn H4.out.2 hg1).mono hsz1, H3.out.1.2⟩, ⟨(H3.out.2.2.2.2.2.1.drawn H4.out.2 (Nat.lt_of_lt_of_le hg1 hsz2)).mono (Nat.le_trans hsz1 hsz2), H3.out.2.2.2.2.2.2⟩, (H3.out.2.2.1.drawn H4.out.2 hg1).mono hsz1, draw_ext H3.out.2.2.2.2.1 H4.out hg0⟩

set_option maxRecDepth 100000 in
set_option maxHeartbeats 1000000 in
theorem drawSortKey_any (a : Option Addr) (n c : Nat) (bs : List Int) (w : World) (hr : RdBy w a n bs) :
    Calls Tryz.prog 11 #[.slice a n c] w fun e w' => ∃ (a1 : Option Addr) (c1 : Nat) (ss : List ByteArray) (s : ByteArray), e = .returned (.tuple #[.slice a1 ss.length c1, .string s]) ∧ OwnS w' w.heap.size a1 ss.length c1 ss ∧ s.size ≤ 217 ∧ Ext w w' := by
  go_enter Tryz.func11, Tryz.ntmps11
  go_wp2_with fail
  refine (l01From_any _ _ _ _ _ hr).mono ?_
  rintro e w1 ⟨g, rfl, hg0, hs, x1⟩
  have hg1 := hs.lt
  have hsz1 := x1.size
  have H1 := Lib.hid (And.intro hs x1)
  clear hs x1
  go_wp2_with fail
  refine (l06Letters_any _ _ H1.out.1).mono ?_
  rintro e w2 ⟨a1, c1, ss, rfl, hl42, h68, o1, d1⟩
  have H2 := Lib.hid (And.intro o1 (And.intro h68 d1))
  clear o1 h68 d1
  go_wp2_with fail
  refine (l01DrawPhrase_any _ _ H2.out.2.2.1).mono ?_
  rintro e w3 ⟨s, rfl, hsz, hd⟩
  have H3 := Lib.hid hd
  clear hd
  go_wp2
  go_ret2
  exact ⟨a1, c1, ss, s, rfl, ⟨(H2.out.1.drawn H3.out.2 hg1).mono hsz1, fun s hs => Nat.le_trans (H2.out.2.1 s hs) (by decide)⟩, hsz, draw_ext H1.out.2 (H2.out.2.2.trans H3.out) hg0⟩

set_option maxRecDepth 100000 in
theorem drawFirstLetters_any (a : Option Addr) (n c : Nat) (bs : List Int) (w : World) (hr : RdBy w a n bs) :
    Calls Tryz.prog 14 #[.slice a n c] w (DrewSL w) := by
  go_enter Tryz.func14, Tryz.ntmps14
  go_wp2_with fail
  refine (l06List_any _ _ _ _ _ hr).mono ?_
  rintro e w2 ⟨a1, c1, ss, a2, c2, ls, rfl, h⟩
  have H := Lib.hid h
  clear h
  go_wp2
  go_ret2
  exact ⟨a1, c1, ss, a2, c2, ls, rfl, H.out⟩

end Go.Proofs.YtdicjpkcgeofjaaGreatDoor

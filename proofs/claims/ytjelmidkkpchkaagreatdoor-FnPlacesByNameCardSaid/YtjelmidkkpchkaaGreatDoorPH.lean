/-
  The draws of the law of places by name.
-/
import Derived.Test.YtjelmidkkpchkaaGreatDoorPG
namespace Go.Proofs.YtjelmidkkpchkaaGreatDoor
open Go.RowKit

set_option maxRecDepth 100000 in
set_option maxHeartbeats 1000000 in
theorem l11CodeOf_any (g : Nat) (a : Option Addr) (c B : Nat) (ps : List Pl) (w : World) (hs : Src w g) (ho : OwnPl w B a ps.length c ps) (hgB : g < B) (hl30 : ps.length ≤ 30) :
    Calls Tryz.prog 69 #[.pointer (some ⟨g, 0, none⟩), .slice a ps.length c] w (DrewS 68 w g) := by
  have HS := Lib.hid (And.intro hs ho)
  clear hs ho
  go_enter Tryz.func69, Tryz.ntmps69
  by_cases hn : 0 < ps.length
  · have hni : (0 : Int) < ps.length := by omega
    go_wp2_with fail
    refine (l01Next_any _ _ _ HS.out.1 (by omega)).mono ?_
    rintro e w1 ⟨y, rfl, hy0, hy1, hd⟩
    have H1 := Lib.hid (And.intro hd.drew (HS.out.2.drawn hd.drew.2 hgB))
    clear hd HS
    by_cases hy : 0 < y
    · go_wp2_with fail
      refine (l01Next_any _ _ _ H1.out.1.1 (by omega)).mono ?_
      rintro e w2 ⟨z, rfl, hz0, hz1, hd⟩
      have H2 := Lib.hid (And.intro (H1.out.1.trans hd.drew) (H1.out.2.drawn hd.drew.2 hgB))
      clear hd H1
      obtain ⟨k, rfl⟩ := Int.eq_ofNat_of_zero_le hz0
      have hk : k < ps.length := by omega
      have hki : (k : Int) < ps.length := by omega
      obtain ⟨b, o, rfl, hb, hA⟩ := H2.out.2.1.rd.at hn
      have hc := (pl_cells hA (List.getElem?_eq_getElem hk)).1
      have hz := (H2.out.2.2 _ (List.getElem_mem hk)).2.1
      have HZ := Lib.hid hz
      clear hz hz1 hA
      go_wp2
      go_ret
      exact ⟨_, rfl, HZ.out, H2.out.1⟩
    · have hg1 := H1.out.1.1.lt
      go_wp2_with fail
      refine (l01Next_any _ _ _ (H1.out.1.1.ext ((Ext.refl _).alloc _)) (by omega)).mono ?_
      rintro e w2 ⟨z, rfl, hz0, hz1, hd⟩
      obtain ⟨j, rfl, hj⟩ := pick_nat 4 rfl (by decide) hz0 hz1
      have hji : (j : Int) < 4 := by omega
      obtain ⟨u, hc, hu⟩ := Lits.new (n := 4) hd.drew hg1 (by kernel_rfl) rfl j hj
      have H2 := Lib.hid (H1.out.1.trans (Drew.pre ((Ext.refl _).alloc _) hd.drew))
      clear hd hz1
      go_wp2
      go_ret
      exact ⟨_, rfl, by omega, H2.out⟩
  · have hni : ¬ (0 : Int) < ps.length := by omega
    have hg1 := HS.out.1.lt
    go_wp2_with fail
    refine (l01Next_any _ _ _ (HS.out.1.ext ((Ext.refl _).alloc _)) (by omega)).mono ?_
    rintro e w2 ⟨z, rfl, hz0, hz1, hd⟩
    obtain ⟨j, rfl, hj⟩ := pick_nat 4 rfl (by decide) hz0 hz1
    have hji : (j : Int) < 4 := by omega
    obtain ⟨u, hc, hu⟩ := Lits.new (n := 4) hd.drew hg1 (by kernel_rfl) rfl j hj
    have H2 := Lib.hid (Drew.pre ((Ext.refl _).alloc _) hd.drew)
    clear hd hz1
    go_wp2
    go_ret
    exact ⟨_, rfl, by omega, H2.out⟩

set_option maxRecDepth 100000 in
set_option maxHeartbeats 1000000 in
theorem l11YearOf_any (g : Nat) (w : World) (hs : Src w g) :
    Calls Tryz.prog 59 #[.pointer (some ⟨g, 0, none⟩)] w fun e w' => ∃ y : Int, e = .returned (.int .i64 y) ∧ Drew w g w' := by
  have H0 := Lib.hid hs
  clear hs
  go_enter Tryz.func59, Tryz.ntmps59
  go_wp2_with fail
  refine (l01Next_any _ _ _ H0.out (by omega)).mono ?_
  rintro e w1 ⟨z1, rfl, l1, u1, hd⟩
  have q1 : IntKind.i64.wrap (1000 + z1) = 1000 + z1 := IntWalk.i64_in _ (by omega)
  have H1 := Lib.hid hd.drew
  clear hd u1
  go_wp2_with fail
  refine (l01Next_any _ _ _ H1.out.1 (by omega)).mono ?_
  rintro e w2 ⟨z2, rfl, l2, u2, hd⟩
  have q2 : IntKind.i64.wrap (1300 + z2) = 1300 + z2 := IntWalk.i64_in _ (by omega)
  have H2 := Lib.hid (H1.out.trans hd.drew)
  clear hd u2
  go_wp2_with fail
  refine (l01Next_any _ _ _ H2.out.1 (by omega)).mono ?_
  rintro e w3 ⟨z3, rfl, l3, u3, hd⟩
  have q3 : IntKind.i64.wrap (1300 + z3) = 1300 + z3 := IntWalk.i64_in _ (by omega)
  have H3 := Lib.hid (H2.out.trans hd.drew)
  clear hd u3
  go_wp2_with fail
  refine (l01Next_any _ _ _ H3.out.1 (by omega)).mono ?_
  rintro e w4 ⟨z4, rfl, l4, u4, hd⟩
  have q4 : IntKind.i64.wrap (1000 + z4) = 1000 + z4 := IntWalk.i64_in _ (by omega)
  have H4 := Lib.hid (H3.out.trans hd.drew)
  clear hd u4
  go_wp2_with fail
  refine (l01Pick_any _ _ _ _ _ _ (H4.out.1.ext ((Ext.refl _).alloc _)) (RdI.lits w4 [1000 + z1, 1300 + z2, 1300 + z3, 3000, 3001, 1000 + z4] _ rfl (by simp)) (by simp) (by rintro ad e; cases e; exact Nat.ne_of_gt H4.out.1.lt)).mono ?_
  rintro e w5 ⟨y, rfl, _, hd⟩
  have H5 := Lib.hid (H4.out.trans (Drew.pre ((Ext.refl _).alloc _) hd.drew))
  clear hd
  go_wp2
  go_ret
  exact ⟨_, rfl, H5.out⟩

/-- A row of strings grows: places stay. -/
theorem OwnPl.growS {w w' : World} {B B' n n' c c' : Nat} {a a' : Option Addr} {ps : List Pl} {ss : List ByteArray} (h : OwnPl w B a n c ps) (hrow : OwnG layS 9 w B' a' n' c' ss) (hg : w.grownBy w' (Value.slice a' n' c').ownBlock) : OwnPl w' B a n c ps :=
  ⟨⟨own_grownE h.1.1 hg fun k hk e => own_apartE h.1.1 hrow.1 (by decide) hk e.symm, h.1.2⟩, fun p hp => ⟨⟨own_grownE (h.2 p hp).1.1 hg fun k hk e => own_apartE (h.2 p hp).1.1 hrow.1 (by decide) hk e.symm, (h.2 p hp).1.2⟩, (h.2 p hp).2⟩⟩

set_option maxRecDepth 100000 in
set_option maxHeartbeats 1000000 in
theorem drawPlacesIn_any (a : Option Addr) (n c : Nat) (bs : List Int) (w : World) (hr : RdBy w a n bs) :
    Calls Tryz.prog 35 #[.slice a n c] w fun e w' => ∃ (a2 : Option Addr) (c2 : Nat) (ps : List Pl) (y : Int), e = .returned (.tuple #[.slice a2 ps.length c2, .int .i64 y]) ∧ ps.length ≤ 30 ∧ OwnPl w' w.heap.size a2 ps.length c2 ps ∧ Ext w w' := by
  go_enter Tryz.func35, Tryz.ntmps35
  go_wp2_with fail
  refine (l01From_any _ _ _ _ _ hr).mono ?_
  rintro e w1 ⟨g, rfl, hg, hs, x1⟩
  have hg1 := hs.lt
  have hsz1 := x1.size
  have H1 := Lib.hid (And.intro hs x1)
  clear hs x1
  go_wp2_with fail
  refine (l11List_any _ _ H1.out.1).mono ?_
  rintro e w2 ⟨a2, c2, ps, rfl, hl, ho, hd⟩
  have H2 := Lib.hid (And.intro ho (And.intro (draw_ext H1.out.2 hd hg) hd))
  clear ho hd
  go_wp2_with fail
  refine (l11YearOf_any _ _ H2.out.2.2.1).mono ?_
  rintro e w3 ⟨y, rfl, hd⟩
  have H3 := Lib.hid (And.intro (H2.out.1.drawn hd.2 hg1) (draw_ext H1.out.2 (H2.out.2.2.trans hd) hg))
  clear hd
  go_wp2
  go_ret2
  exact ⟨_, _, ps, y, rfl, hl, H3.out.1.mono hsz1, H3.out.2⟩

set_option maxRecDepth 100000 in
set_option maxHeartbeats 1000000 in
theorem drawFindPlace_any (a : Option Addr) (n c : Nat) (bs : List Int) (w : World) (hr : RdBy w a n bs) :
    Calls Tryz.prog 15 #[.slice a n c] w fun e w' => ∃ (a2 : Option Addr) (c2 : Nat) (ps : List Pl) (s : ByteArray), e = .returned (.tuple #[.slice a2 ps.length c2, .string s]) ∧ ps.length ≤ 30 ∧ s.size ≤ 68 ∧ OwnPl w' w.heap.size a2 ps.length c2 ps ∧ Ext w w' := by
  go_enter Tryz.func15, Tryz.ntmps15
  go_wp2_with fail
  refine (l01From_any _ _ _ _ _ hr).mono ?_
  rintro e w1 ⟨g, rfl, hg, hs, x1⟩
  have hg1 := hs.lt
  have hsz1 := x1.size
  have H1 := Lib.hid (And.intro hs x1)
  clear hs x1
  go_wp2_with fail
  refine (l11List_any _ _ H1.out.1).mono ?_
  rintro e w2 ⟨a2, c2, ps, rfl, hl, ho, hd⟩
  have H2 := Lib.hid (And.intro ho (And.intro (draw_ext H1.out.2 hd hg) hd))
  clear ho hd
  go_wp2_with fail
  refine (l11CodeOf_any _ _ _ _ _ _ H2.out.2.2.1 H2.out.1 hg1 hl).mono ?_
  rintro e w3 ⟨s, rfl, hsz, hd⟩
  have H3 := Lib.hid (And.intro (H2.out.1.drawn hd.2 hg1) (draw_ext H1.out.2 (H2.out.2.2.trans hd) hg))
  clear hd
  go_wp2
  go_ret2
  exact ⟨_, _, ps, s, rfl, hl, hsz, H3.out.1.mono hsz1, H3.out.2⟩

set_option maxRecDepth 100000 in
set_option maxHeartbeats 1000000 in
theorem drawPlacesOfKind_any (a : Option Addr) (n c : Nat) (bs : List Int) (w : World) (hr : RdBy w a n bs) :
    Calls Tryz.prog 9 #[.slice a n c] w fun e w' => ∃ (a2 : Option Addr) (c2 : Nat) (ps : List Pl) (a3 : Option Addr) (n3 c3 : Nat) (zs : List Int) (k y : Int), e = .returned (.tuple #[.slice a2 ps.length c2, .slice a3 n3 c3, .int .i64 k, .int .i64 y]) ∧ ps.length ≤ 30 ∧ n3 ≤ 100 ∧ OwnPl w' w.heap.size a2 ps.length c2 ps ∧ RdI w' a3 n3 zs ∧ Ext w w' := by
  go_enter Tryz.func9, Tryz.ntmps9
  go_wp2_with fail
  refine (l01From_any _ _ _ _ _ hr).mono ?_
  rintro e w1 ⟨g, rfl, hg, hs, x1⟩
  have hg1 := hs.lt
  have hsz1 := x1.size
  have H1 := Lib.hid (And.intro hs (And.intro x1 (hr.ext x1)))
  clear hs x1
  go_wp2_with fail
  refine (drawPlacesIn_any _ _ _ _ _ H1.out.2.2).mono ?_
  rintro e w2 ⟨a2, c2, ps, y, rfl, hl, ho, x2⟩
  have hsz2 := x2.size
  have H2 := Lib.hid (And.intro (H1.out.1.ext x2) (And.intro ho (H1.out.2.1.trans x2)))
  clear ho x2
  go_wp2_with fail
  refine (l10Draw_any _ _ H2.out.1).mono ?_
  rintro e w3 ⟨v, rfl, a3, n3, c3, zs, rfl, hn3, o3, hd1, hd2⟩
  have hd : Drew w2 g w3 := ⟨hd1, hd2⟩
  have hg2 : g < w2.heap.size := H2.out.1.lt
  have H3 := Lib.hid (And.intro (H2.out.2.1.drawn hd.2 hg1) (And.intro o3 hd))
  clear o3 hd hd1 hd2
  go_wp2_with fail
  refine (l10Class_any _ _ _ _ _ H3.out.2.2.1 hn3).mono ?_
  rintro e w4 ⟨k, rfl, hd0⟩
  have hd := hd0.drew
  clear hd0
  have H4 := Lib.hid (And.intro (H3.out.1.drawn hd.2 hg1) (And.intro (H3.out.2.1.drawn hd.2 hg2).rd (draw_ext H2.out.2.2 (H3.out.2.2.trans hd) hg)))
  clear hd
  go_wp2
  exact bodyPost_ret (v := .tuple #[.slice a2 ps.length c2, .slice a3 n3 c3, .int .i64 k, .int .i64 y]) (by simp [results, Tryz.results9, go_sem]) rfl ⟨_, _, ps, _, _, _, zs, k, y, rfl, hl, hn3, H4.out.1.mono hsz1, H4.out.2.1, H4.out.2.2⟩

set_option maxRecDepth 100000 in
set_option maxHeartbeats 4000000 in
theorem drawPlacesNamed_any (a : Option Addr) (n c : Nat) (bs : List Int) (w : World) (hr : RdBy w a n bs) :
    Calls Tryz.prog 6 #[.slice a n c] w fun e w' => ∃ (a2 : Option Addr) (c2 : Nat) (ps : List Pl) (s : ByteArray) (y : Int), e = .returned (.tuple #[.slice a2 ps.length c2, .string s, .int .i64 y]) ∧ ps.length ≤ 30 ∧ s.size ≤ 217 ∧ OwnPl w' w.heap.size a2 ps.length c2 ps ∧ Ext w w' := by
  go_enter Tryz.func6, Tryz.ntmps6
  go_wp2_with fail
  refine (l01From_any _ _ _ _ _ hr).mono ?_
  rintro e w1 ⟨g, rfl, hg, hs, x1⟩
  have hg1 := hs.lt
  have hsz1 := x1.size
  have H1 := Lib.hid (And.intro hs (And.intro x1 (hr.ext x1)))
  clear hs x1
  go_wp2_with fail
  refine (drawPlacesIn_any _ _ _ _ _ H1.out.2.2).mono ?_
  rintro e w2 ⟨a2, c2, ps, y, rfl, hl, ho, x2⟩
  have hsz2 := x2.size
  have H2 := Lib.hid (And.intro (H1.out.1.ext x2) (And.intro ho (H1.out.2.1.trans x2)))
  clear ho x2
  go_wp2_with fail
  refine (l01Next_any _ _ _ H2.out.1 (by omega)).mono ?_
  rintro e w3 ⟨z, rfl, hz0, hz1, hd0⟩
  have H3 := Lib.hid (And.intro (H2.out.2.1.drawn hd0.drew.2 hg1) (And.intro hd0.drew H2.out.2.2))
  clear hd0 hz1 H2
  by_cases hz : z = 0
  · subst hz
    go_wp2
    apply withKey
    case h =>
     intro key0
     apply withKey
     case h =>
      intro key1
      apply withKey
      case h =>
       intro key2
       apply withKey
       case h =>
        intro key3
        refine wp_region_any (by kernel_rfl) ?_
        try (change wpAny _ _ _ _ _ _ _ (World.drew _))
        have hb := Lib.hid (And.intro (H3.out.1.ext (Ext.refl w3).drew) (And.intro (H3.out.2.1.ext (Ext.refl w3).drew) H3.out.2.2))
        generalize w3.drew = wd at hb ⊢
        refine takeYes 0 18 ?v1 rfl rfl (by kernel_rfl) (by kernel_rfl) (by kernel_rfl) (fun _ _ _ _ h => h) (by kernel_rfl) ?y1 ?r1
        case y1 => intro w; go_simp; first | done | with_reducible rfl
        simp only [Act.put, List.setIfInBounds_toArray, List.set_cons_zero, List.set_cons_succ]
        refine takeYes 2 20 ?v2 rfl rfl (by kernel_rfl) (by kernel_rfl) (by kernel_rfl) (fun _ _ _ _ h => h) (by kernel_rfl) ?y2 ?r2
        case y2 => intro w; go_simp; first | done | with_reducible rfl
        simp only [Act.put, List.setIfInBounds_toArray, List.set_cons_zero, List.set_cons_succ]
        refine takeYes 6 24 ?v3 rfl rfl (by kernel_rfl) (by kernel_rfl) (by kernel_rfl) (fun _ _ _ _ h => h) (by kernel_rfl) ?y3 ?r3
        case y3 => intro w; go_simp; first | done | with_reducible rfl
        simp only [Act.put, List.setIfInBounds_toArray, List.set_cons_zero, List.set_cons_succ]
        revert hb; revert wd
        exact key3
       intro wd hb
       refine wpAny_ready (rs := [1, 3]) (by kernel_rfl) (by simp) ?_
       refine AllReady.cons rfl (fun K hK => ?_) (AllReady.cons rfl (fun K hK => ?_) AllReady.nil)
       · skip
         go_simp
         refine hK _ _ ?_
         clear hK K
         have hD : Drew wd g (wd.alloc (.cells #[.string ⟨#[111, 108, 100, 32, 97, 115, 104]⟩, .string ⟨#[110, 101, 119, 116, 111, 110]⟩, .string ⟨#[79, 108, 100]⟩] 9)) := Drew.of_ext hb.out.2.1.1 ((Ext.refl _).alloc _)
         have hL := Lib.hid (And.intro (Box.new wd #[.string ⟨#[111, 108, 100, 32, 97, 115, 104]⟩, .string ⟨#[110, 101, 119, 116, 111, 110]⟩, .string ⟨#[79, 108, 100]⟩] 9) (Nat.ne_of_gt hb.out.2.1.1.lt))
         generalize wd.alloc (.cells #[.string ⟨#[111, 108, 100, 32, 97, 115, 104]⟩, .string ⟨#[110, 101, 119, 116, 111, 110]⟩, .string ⟨#[79, 108, 100]⟩] 9) = we at hD hL ⊢
         generalize wd.heap.size = bL at hL ⊢
         try simp only [Act.put, List.setIfInBounds_toArray, List.set_cons_zero, List.set_cons_succ]
         have q_hb := Lib.hid (And.intro (hb.out.1.drawn hD.2 hg1) (And.intro (hb.out.2.1.trans hD) hb.out.2.2))
         clear hD hb
         clear wd
         revert hL; revert q_hb; revert we; revert bL
         exact key1
       · skip
         go_simp
         refine (l01Next_any _ _ _ hb.out.2.1.1 (by decide)).mono ?_
         rintro e we ⟨z3, rfl, hq0, hq1, hD0⟩
         obtain ⟨y3, rfl, hyn⟩ := pick_nat 3 rfl (by decide) hq0 hq1
         have hy3 := Lib.hid hyn
         have hD := hD0.drew
         clear hq0 hq1 hD0 hyn
         go_wp2_with fail
         try simp only [Act.put, List.setIfInBounds_toArray, List.set_cons_zero, List.set_cons_succ]
         have q_hb := Lib.hid (And.intro (hb.out.1.drawn hD.2 hg1) (And.intro (hb.out.2.1.trans hD) hb.out.2.2))
         clear hD hb
         clear wd
         refine takeYes 7 2 ?v4 rfl rfl (by kernel_rfl) (by kernel_rfl) (by kernel_rfl) (fun _ _ _ _ h => h) (by kernel_rfl) ?y4 ?r4
         case y4 => intro w; go_simp; first | done | with_reducible rfl
         simp only [Act.put, List.setIfInBounds_toArray, List.set_cons_zero, List.set_cons_succ]
         revert hy3; revert q_hb; revert we; revert y3
         exact key2
      intro y3 wd hb hy3
      refine wpAny_ready (rs := [1]) (by kernel_rfl) (by simp) ?_
      refine AllReady.cons rfl (fun K hK => ?_) AllReady.nil
      skip
      go_simp
      refine hK _ _ ?_
      clear hK K
      have hD : Drew wd g (wd.alloc (.cells #[.string ⟨#[111, 108, 100, 32, 97, 115, 104]⟩, .string ⟨#[110, 101, 119, 116, 111, 110]⟩, .string ⟨#[79, 108, 100]⟩] 9)) := Drew.of_ext hb.out.2.1.1 ((Ext.refl _).alloc _)
      have hL := Lib.hid (And.intro (Box.new wd #[.string ⟨#[111, 108, 100, 32, 97, 115, 104]⟩, .string ⟨#[110, 101, 119, 116, 111, 110]⟩, .string ⟨#[79, 108, 100]⟩] 9) (Nat.ne_of_gt hb.out.2.1.1.lt))
      generalize wd.alloc (.cells #[.string ⟨#[111, 108, 100, 32, 97, 115, 104]⟩, .string ⟨#[110, 101, 119, 116, 111, 110]⟩, .string ⟨#[79, 108, 100]⟩] 9) = we at hD hL ⊢
      generalize wd.heap.size = bL at hL ⊢
      try simp only [Act.put, List.setIfInBounds_toArray, List.set_cons_zero, List.set_cons_succ]
      have q_hb := Lib.hid (And.intro (hb.out.1.drawn hD.2 hg1) (And.intro (hb.out.2.1.trans hD) hb.out.2.2))
      have q_hy3 := Lib.hid (hy3.out)
      clear hD hb hy3
      clear wd
      have hy3i := (show (y3 : Int) < 3 from Int.ofNat_lt.2 q_hy3.out)
      refine takeYes 4 22 ?v5 rfl rfl (by kernel_rfl) (by kernel_rfl) (by kernel_rfl) (fun _ _ _ _ h => h) (by kernel_rfl) ?y5 ?r5
      case y5 => intro w; go_simp; first | done | with_reducible rfl
      simp only [Act.put, List.setIfInBounds_toArray, List.set_cons_zero, List.set_cons_succ]
      clear hy3i
      revert q_hy3; revert hL; revert q_hb; revert we; revert y3; revert bL
      exact key0
     intro bL wd hb hL
     refine wpAny_ready (rs := [3]) (by kernel_rfl) (by simp) ?_
     refine AllReady.cons rfl (fun K hK => ?_) AllReady.nil
     skip
     go_simp
     refine (l01Next_any _ _ _ hb.out.2.1.1 (by decide)).mono ?_
     rintro e we ⟨z3, rfl, hq0, hq1, hD0⟩
     obtain ⟨y3, rfl, hyn⟩ := pick_nat 3 rfl (by decide) hq0 hq1
     have hy3 := Lib.hid hyn
     have hD := hD0.drew
     clear hq0 hq1 hD0 hyn
     go_wp2_with fail
     try simp only [Act.put, List.setIfInBounds_toArray, List.set_cons_zero, List.set_cons_succ]
     have q_hb := Lib.hid (And.intro (hb.out.1.drawn hD.2 hg1) (And.intro (hb.out.2.1.trans hD) hb.out.2.2))
     have q_hL := Lib.hid (And.intro (hL.out.1.drew hD hL.out.2) hL.out.2)
     clear hD hb hL
     clear wd
     have hy3i := (show (y3 : Int) < 3 from Int.ofNat_lt.2 hy3.out)
     refine takeYes 4 22 ?v6 rfl rfl (by kernel_rfl) (by kernel_rfl) (by kernel_rfl) (fun _ _ _ _ h => h) (by kernel_rfl) ?y6 ?r6
     case y6 => intro w; go_simp; first | done | with_reducible rfl
     simp only [Act.put, List.setIfInBounds_toArray, List.set_cons_zero, List.set_cons_succ]
     refine takeYes 7 2 ?v7 rfl rfl (by kernel_rfl) (by kernel_rfl) (by kernel_rfl) (fun _ _ _ _ h => h) (by kernel_rfl) ?y7 ?r7
     case y7 => intro w; go_simp; first | done | with_reducible rfl
     simp only [Act.put, List.setIfInBounds_toArray, List.set_cons_zero, List.set_cons_succ]
     clear hy3i
     revert hy3; revert q_hL; revert q_hb; revert we; revert y3; revert bL
     exact key0
    intro bL y3 wd hb hL hy3
    refine wpAny_ready (rs := [5]) (by kernel_rfl) (by simp) ?_
    refine AllReady.cons rfl (fun K hK => ?_) AllReady.nil
    skip
    obtain ⟨s1, hc, hlz⟩ := Lits.of_box (n := 3) hL.out.1 (by kernel_rfl) rfl y3 hy3.out
    have h1 := Lib.hid hlz
    clear hlz
    go_simp
    refine hK _ _ ?_
    clear hK K
    try simp only [Act.put, List.setIfInBounds_toArray, List.set_cons_zero, List.set_cons_succ]
    refine takeYes 8 3 ?vza rfl rfl (by kernel_rfl) (by kernel_rfl) (by kernel_rfl) (fun _ _ _ _ h => h) (by kernel_rfl) ?yza ?rza
    case yza => intro w; go_simp; first | done | with_reducible rfl
    simp only [Act.put, List.setIfInBounds_toArray, List.set_cons_zero, List.set_cons_succ]
    refine takeYes 9 4 ?vzb rfl rfl (by kernel_rfl) (by kernel_rfl) (by kernel_rfl) (fun _ _ _ _ h => h) (by kernel_rfl) ?yzb ?rzb
    case yzb => intro w; go_simp; first | done | with_reducible rfl
    simp only [Act.put, List.setIfInBounds_toArray, List.set_cons_zero, List.set_cons_succ]
    refine wpAny_done (by kernel_rfl) ?_ _
    clear hc
    go_wp2
    go_ret3
    exact ⟨_, _, ps, s1, y, rfl, hl, Nat.le_trans h1.out (by decide), hb.out.1.mono hsz1, draw_ext hb.out.2.2 hb.out.2.1 hg⟩
  by_cases hn : 0 < ps.length
  · obtain ⟨b, o, rfl, hb, hA⟩ := H3.out.1.1.rd.at hn
    have hp0 := List.getElem?_eq_getElem hn
    obtain ⟨-, -, -, -, c4⟩ := pl_cells hA hp0
    have hok := H3.out.1.2 _ (List.getElem_mem hn)
    have hni : (0 : Int) < ps.length := by omega
    simp only [Nat.zero_mul, Nat.add_zero] at c4
    have hrn := hok.1.rd.len
    have hsh := hok.2.2.1
    have hrd := hok.1.rd
    generalize ps[0] = p0 at c4 hok hrn hsh hrd
    clear hA hp0 hok
    obtain ⟨px, ⟨ra, rn, rc⟩⟩ := p0
    simp only at c4 hrn hsh hrd
    by_cases hm : 0 < rn
    · have hmi : (0 : Int) < rn := by omega
      obtain ⟨b2, o2, rfl, hb2, hA2⟩ := hrd.at hm
      have hl2 : 0 < px.names.length := by omega
      have d0 := hA2 0 _ (List.getElem?_eq_getElem hl2) 0 _ rfl
      simp only [Nat.zero_mul, Nat.add_zero] at d0
      have hsz := (hsh _ (List.getElem_mem hl2)).1
      generalize px.names[0] = nm at d0 hsz
      clear hA2 hrd
      have HZ := Lib.hid hsz
      clear hsz
      go_wp2
      go_quiet (fail)
      go_wp2
      go_ret3
      exact ⟨_, _, ps, _, y, rfl, hl, HZ.out, (H3.out.1.ext ((Still.refl _).drewN _).ext).mono hsz1, draw_ext H3.out.2.2 H3.out.2.1 hg |>.trans ((Still.refl _).drewN _).ext⟩
    · have hmi : ¬ (0 : Int) < rn := by omega
      clear hrd
      go_wp2_with fail
      refine (l01DrawPhrase_any _ _ H3.out.2.1.1).mono ?_
      rintro e w4 ⟨s, rfl, hsz, hd⟩
      have H4 := Lib.hid (And.intro (H3.out.1.drawn hd.2 hg1) (draw_ext H3.out.2.2 (H3.out.2.1.trans hd) hg))
      clear hd
      go_wp2
      go_ret3
      exact ⟨_, _, ps, s, y, rfl, hl, by omega, H4.out.1.mono hsz1, H4.out.2⟩
  · have hni : ¬ (0 : Int) < ps.length := by omega
    go_wp2_with fail
    refine (l01DrawPhrase_any _ _ H3.out.2.1.1).mono ?_
    rintro e w4 ⟨s, rfl, hsz, hd⟩
    have H4 := Lib.hid (And.intro (H3.out.1.drawn hd.2 hg1) (draw_ext H3.out.2.2 (H3.out.2.1.trans hd) hg))
    clear hd
    go_wp2
    go_ret3
    exact ⟨_, _, ps, s, y, rfl, hl, by omega, H4.out.1.mono hsz1, H4.out.2⟩

set_option maxRecDepth 100000 in
set_option maxHeartbeats 4000000 in
theorem drawNameOf_any (a : Option Addr) (n c : Nat) (bs : List Int) (w : World) (hr : RdBy w a n bs) :
    Calls Tryz.prog 12 #[.slice a n c] w fun e w' => ∃ (a2 : Option Addr) (c2 : Nat) (ps : List Pl) (s : ByteArray) (a3 : Option Addr) (c3 : Nat) (ls : List ByteArray) (y : Int), e = .returned (.tuple #[.slice a2 ps.length c2, .string s, .slice a3 ls.length c3, .int .i64 y]) ∧ ps.length ≤ 30 ∧ s.size ≤ 68 ∧ OwnPl w' w.heap.size a2 ps.length c2 ps ∧ RdS w' a3 ls.length ls ∧ Ext w w' := by
  go_enter Tryz.func12, Tryz.ntmps12
  go_wp2_with fail
  refine (l01From_any _ _ _ _ _ hr).mono ?_
  rintro e w1 ⟨g, rfl, hg, hs, x1⟩
  have hg1 := hs.lt
  have hsz1 := x1.size
  have H1 := Lib.hid (And.intro hs (And.intro x1 (hr.ext x1)))
  clear hs x1
  go_wp2_with fail
  refine (drawFindPlace_any _ _ _ _ _ H1.out.2.2).mono ?_
  rintro e w2 ⟨a2, c2, ps, s, rfl, hl, hsz, ho, x2⟩
  have hsz2 := x2.size
  have H2 := Lib.hid (And.intro (H1.out.1.ext x2) (And.intro ho (H1.out.2.1.trans x2)))
  clear ho x2
  have hg2 : g < w2.heap.size := H2.out.1.lt
  have xb := (Ext.refl w2).alloc (.cells #[] 9)
  have HN := Lib.hid (And.intro (H2.out.1.ext xb) (And.intro (H2.out.2.1.ext xb) (And.intro (H2.out.2.2.trans xb) (OwnG.lit layS 9 w2 (Nat.le_refl _) [] #[] rfl (by simp)))))
  clear xb
  go_wp2_with fail
  refine (l01Next_any _ _ _ HN.out.1 (by omega)).mono ?_
  rintro e w3 ⟨z, rfl, hz0, hz1, hd0⟩
  have H3 := Lib.hid (And.intro (Drew.pre ((Ext.refl w2).alloc _) hd0.drew) (And.intro (HN.out.2.1.drawn hd0.drew.2 hg1) (HN.out.2.2.2.drawn hd0.drew.2 hg2)))
  clear hd0
  go_wp2
  go_loopw [9, 10] (fun v i wr => ∃ (l : List ByteArray) (a3 : Option Addr) (c1 k : Nat), v = .slice a3 l.length c1 ∧ i = .int .i64 k ∧ k + l.length ≤ 3 ∧ (∀ s ∈ l, s.size ≤ 17) ∧ OwnG layS 9 wr w2.heap.size a3 l.length c1 l ∧ OwnPl wr w1.heap.size a2 ps.length c2 ps ∧ Drew w2 g wr) (fun _ i _ => (intOf i).toNat)
  case atStart =>
    obtain ⟨k, rfl⟩ := Int.eq_ofNat_of_zero_le hz0
    exact ⟨[], _, _, k, rfl, rfl, by simp; omega, (fun _ h => by cases h), H3.out.2.2, H3.out.2.1, H3.out.1⟩
  case round =>
    obtain ⟨l, a3, c1, k, rfl, rfl, hk, hls, ho, hp, hD⟩ := hrel
    have HL := Lib.hid hls
    clear hls
    have HO := Lib.hid (And.intro ho (And.intro hp hD))
    clear ho hp hD H3 hz0 hz1
    by_cases hk0 : 0 < k
    · have hgr := HO.out.2.2.1.lt
      go_wp2_with fail
      refine (l01Next_any _ _ _ (HO.out.2.2.1.ext ((Ext.refl _).alloc _)) (by omega)).mono ?_
      rintro e w4 ⟨q, rfl, hq0, hq1, hd⟩
      obtain ⟨j, rfl, hj⟩ := pick_nat 6 rfl (by decide) hq0 hq1
      have hji : (j : Int) < 6 := by omega
      obtain ⟨u, hc, hu⟩ := Lits.new (n := 6) hd.drew hgr (by kernel_rfl) rfl j hj
      have hd2 := Drew.pre ((Ext.refl wr).alloc _) hd.drew
      have H4 := Lib.hid (And.intro (HO.out.1.drawn hd2.2 hg2) (And.intro (HO.out.2.1.drawn hd2.2 hg1) (HO.out.2.2.trans hd2)))
      clear hd hd2 HO
      go_wp2_with (first | (at_builtin; refine wpList_appG layS rfl _ _ 27 9 rfl Tryz.underlying27 (.string ⟨#[]⟩) 16 Tryz.info_string rfl (by decide) w2.heap.size _ l.length _ l rfl (H4.out.1.ext ((Ext.refl _).alloc _)) _ 1 _ [u] rfl (RdG.new1 layS _ _ _ rfl _) (by omega) (by have := H4.out.2.2.size; simp; omega) ?_; intro a4 c4 w5 hown hgrow; have HE := Lib.hid (And.intro hown (And.intro ((H4.out.2.1.ext ((Ext.refl w4).alloc _)).growS (H4.out.1.ext ((Ext.refl w4).alloc _)) hgrow) (draw_growP (H4.out.1.ext ((Ext.refl w4).alloc _)).1 (H4.out.2.2.1.ext ((Ext.refl w4).alloc _)) hg2 (Nat.le_refl _) (H4.out.2.2.ext ((Ext.refl w4).alloc _)).2 hgrow))); clear hown hgrow) | fail)
      clear hc
      go_roundw
      case rel => exact ⟨l ++ [u], a4, c4, k - 1, by simp, by rw [show ((k : Int) - 1) = ((k - 1 : Nat) : Int) from by omega], by simp; omega, (fun s hs => by rcases List.mem_append.1 hs with h | h; exact HL.out s h; rw [List.mem_singleton.1 h]; exact hu), by simpa using HE.out.1, HE.out.2.1, HE.out.2.2⟩
      case measure => simp [intOf]; omega
    · go_wp2_with fail
      refine (l11YearOf_any _ _ HO.out.2.2.1).mono ?_
      rintro e w4 ⟨y, rfl, hd⟩
      have H4 := Lib.hid (And.intro (HO.out.2.1.drawn hd.2 hg1) (And.intro (OwnS.rd (ss := l) ⟨HO.out.1.drawn hd.2 hg2, fun s hs => Nat.le_trans (HL.out s hs) (by decide)⟩) (draw_ext H2.out.2.2 (HO.out.2.2.trans hd) hg)))
      clear hd
      go_wp2
      exact bodyPost_ret (v := .tuple #[.slice a2 ps.length c2, .string s, .slice a3 l.length c1, .int .i64 y]) (by simp [results, Tryz.results12, go_sem]) rfl ⟨_, _, ps, s, _, _, l, y, rfl, hl, hsz, H4.out.1.mono hsz1, H4.out.2.1, H4.out.2.2⟩

end Go.Proofs.YtjelmidkkpchkaaGreatDoor

/-
  The reference's draws for FnSounds.
-/
import Derived.Test.YtfglmoedicijkaaGreatDoorDT
namespace Go.Proofs.YtfglmoedicijkaaGreatDoor
open Go.RowKit

theorem size2 {s u : ByteArray} {k : Nat} (h : s.size ≤ 51) (hk : k ≤ s.size) (hu : u.size ≤ 17) : ¬ 9223372036854775807 < k + u.size := by omega
theorem size3 {s u : ByteArray} {k m : Nat} (h : s.size ≤ 51) (hk : k ≤ s.size) (hu : u.size ≤ 17) : ¬ 9223372036854775807 < k + u.size + (s.size - m) := by omega
theorem wrapk {s : ByteArray} {k z : Nat} (h : s.size ≤ 51) (hk : k ≤ s.size) (hz : z < 3) : IntKind.i64.wrap ((k : Int) + (z : Int)) = ((k + z : Nat) : Int) := (IntWalk.i64_in _ (by omega)).trans (by omega)
theorem minI (s : ByteArray) (k z : Nat) : min (s.size : Int) ((k : Int) + (z : Int)) = ((min s.size (k + z) : Nat) : Int) := by omega
theorem minB (s : ByteArray) (k z : Nat) : ((min s.size (k + z) : Nat) : Int) ≤ (s.size : Int) := by omega
/-- Two short texts. -/
def DrewTwo (w : World) (e : Ending) (w' : World) : Prop := ∃ s t : ByteArray, e = .returned (.tuple #[.string s, .string t]) ∧ s.size ≤ 200 ∧ t.size ≤ 200 ∧ Ext w w'

set_option maxRecDepth 100000 in
set_option maxHeartbeats 4000000 in
theorem l01DrawTwo_any (a : Option Addr) (n c : Nat) (bs : List Int) (w : World) (hr : RdBy w a n bs) :
    Calls Tryz.prog 38 #[.slice a n c] w (DrewTwo w) := by
  go_enter Tryz.func38, Tryz.ntmps38
  go_wp2_with fail
  refine (l01From_any _ _ _ _ _ hr).mono ?_
  rintro e w1 ⟨g, rfl, hg, hs, x1⟩
  have H1 := Lib.hid (And.intro hs x1)
  clear hs x1
  go_wp2_with fail
  refine (l01DrawWord_any _ _ H1.out.1).mono ?_
  rintro e w2 ⟨s, rfl, hs51, hd⟩
  have H2 := Lib.hid hd
  clear hd
  go_wp2_with fail
  refine (l01DrawWord_any _ _ H2.out.1).mono ?_
  rintro e w3 ⟨t, rfl, ht51, hd⟩
  have H3 := Lib.hid (H2.out.trans hd)
  clear hd
  by_cases hl : (1 : Int) < s.size
  · go_wp2_with fail
    refine (l01Next_any _ _ _ H3.out.1 (by omega)).mono ?_
    rintro e w4 ⟨y, rfl, hy0, hy1, hd⟩
    have H4 := Lib.hid (H3.out.trans hd.drew)
    clear hd
    cases hyy : (y == 0)
    · go_wp2
      go_ret2
      exact ⟨s, t, rfl, by omega, by omega, draw_ext H1.out.2 H4.out hg⟩
    · go_wp2_with fail
      refine (l01Next_any _ _ _ H4.out.1 (by omega)).mono ?_
      rintro e w5 ⟨x, rfl, hx0, hx1, hd⟩
      have H5 := Lib.hid (H4.out.trans hd.drew)
      clear hd
      obtain ⟨k, rfl⟩ := Int.eq_ofNat_of_zero_le hx0
      have hks : k ≤ s.size := by omega
      have hki : (k : Int) ≤ s.size := by omega
      have HR := Lib.hid (fun (w' : World) (t : ByteArray) (ht : t.size ≤ 200) (hd : Drew w5 g w') => (show DrewTwo w (.returned (.tuple #[.string s, .string t])) w' from ⟨s, t, rfl, by omega, ht, draw_ext H1.out.2 (H5.out.trans hd) hg⟩))
      clear hyy hx1 hy1
      go_wp2
      apply withKey
      case h =>
       intro key0
       apply withKey
       case h =>
        intro key1
        apply withKey
        case h =>
         intro key2
         apply withKey
         case h =>
          intro key3
          apply withKey
          case h =>
           intro key4
           apply withKey
           case h =>
            intro key5
            apply withKey
            case h =>
             intro key6
             apply withKey
             case h =>
              intro key7
              refine wp_region_any (by kernel_rfl) ?_
              try (change wpAny _ _ _ _ _ _ _ (World.drew _))
              have hb := Lib.hid (Drew.of_ext (g := g) H5.out.1 (Ext.refl w5).drew)
              generalize w5.drew = wd at hb ⊢
              refine takeYes 0 26 ?v1 rfl rfl (by kernel_rfl) (by kernel_rfl) (by kernel_rfl) (fun _ _ _ _ h => h) (by kernel_rfl) ?y1 ?r1
              case y1 => intro w; go_simp; first | done | with_reducible rfl
              simp only [Act.put, List.setIfInBounds_toArray, List.set_cons_zero, List.set_cons_succ]
              refine takeYes 1 27 ?v2 rfl rfl (by kernel_rfl) (by kernel_rfl) (by kernel_rfl) (fun _ _ _ _ h => h) (by kernel_rfl) ?y2 ?r2
              case y2 => intro w; go_simp; first | done | with_reducible rfl
              simp only [Act.put, List.setIfInBounds_toArray, List.set_cons_zero, List.set_cons_succ]
              refine takeYes 2 28 ?v3 rfl rfl (by kernel_rfl) (by kernel_rfl) (by kernel_rfl) (fun _ _ _ _ h => h) (by kernel_rfl) ?y3 ?r3
              case y3 => intro w; go_simp; first | done | with_reducible rfl
              simp only [Act.put, List.setIfInBounds_toArray, List.set_cons_zero, List.set_cons_succ]
              refine takeYes 4 30 ?v4 rfl rfl (by kernel_rfl) (by kernel_rfl) (by kernel_rfl) (fun _ _ _ _ h => h) (by kernel_rfl) ?y4 ?r4
              case y4 => intro w; go_simp; first | done | with_reducible rfl
              simp only [Act.put, List.setIfInBounds_toArray, List.set_cons_zero, List.set_cons_succ]
              refine takeYes 9 35 ?v5 rfl rfl (by kernel_rfl) (by kernel_rfl) (by kernel_rfl) (fun _ _ _ _ h => h) (by kernel_rfl) ?y5 ?r5
              case y5 => intro w; go_simp; first | done | with_reducible rfl
              simp only [Act.put, List.setIfInBounds_toArray, List.set_cons_zero, List.set_cons_succ]
              refine takeYes 10 36 ?v6 rfl rfl (by kernel_rfl) (by kernel_rfl) (by kernel_rfl) (fun _ _ _ _ h => h) (by kernel_rfl) ?y6 ?r6
              case y6 => intro w; go_simp; first | done | with_reducible rfl
              simp only [Act.put, List.setIfInBounds_toArray, List.set_cons_zero, List.set_cons_succ]
              refine takeYes 11 37 ?v7 rfl rfl (by kernel_rfl) (by kernel_rfl) (by kernel_rfl) (fun _ _ _ _ h => h) (by kernel_rfl) ?y7 ?r7
              case y7 => intro w; go_simp; first | done | with_reducible rfl
              simp only [Act.put, List.setIfInBounds_toArray, List.set_cons_zero, List.set_cons_succ]
              refine takeYes 12 38 ?v8 rfl rfl (by kernel_rfl) (by kernel_rfl) (by kernel_rfl) (fun _ _ _ _ h => h) (by kernel_rfl) ?y8 ?r8
              case y8 => intro w; go_simp; first | done | with_reducible rfl
              simp only [Act.put, List.setIfInBounds_toArray, List.set_cons_zero, List.set_cons_succ]
              refine takeYes 13 39 ?v9 rfl rfl (by kernel_rfl) (by kernel_rfl) (by kernel_rfl) (fun _ _ _ _ h => h) (by kernel_rfl) ?y9 ?r9
              case y9 => intro w; go_simp; first | done | with_reducible rfl
              simp only [Act.put, List.setIfInBounds_toArray, List.set_cons_zero, List.set_cons_succ]
              revert hb; revert wd
              exact key7
             intro wd hb
             refine wpAny_ready (rs := [3, 5]) (by kernel_rfl) (by simp) ?_
             refine AllReady.cons rfl (fun K hK => ?_) (AllReady.cons rfl (fun K hK => ?_) AllReady.nil)
             · skip
               go_simp
               refine hK _ _ ?_
               clear hK K
               have hD : Drew wd g (wd.alloc (.cells #[.string ⟨#[]⟩, .string ⟨#[120]⟩, .string ⟨#[115, 104]⟩] 9)) := Drew.of_ext hb.out.1 ((Ext.refl _).alloc _)
               have hL := Lib.hid (And.intro (Box.new wd #[.string ⟨#[]⟩, .string ⟨#[120]⟩, .string ⟨#[115, 104]⟩] 9) (Nat.ne_of_gt hb.out.1.lt))
               generalize wd.alloc (.cells #[.string ⟨#[]⟩, .string ⟨#[120]⟩, .string ⟨#[115, 104]⟩] 9) = we at hD hL ⊢
               generalize wd.heap.size = bL at hL ⊢
               try simp only [Act.put, List.setIfInBounds_toArray, List.set_cons_zero, List.set_cons_succ]
               have q_hb := Lib.hid (hb.out.trans hD)
               clear hD hb
               clear wd
               revert hL; revert q_hb; revert we; revert bL
               exact key4
             · skip
               go_simp
               refine (l01Next_any _ _ _ hb.out.1 (by decide)).mono ?_
               rintro e we ⟨z1, rfl, hz0, hz1, hD0⟩
               obtain ⟨y, rfl, hyn⟩ := pick_nat 3 rfl (by decide) hz0 hz1
               have hy := Lib.hid hyn
               have hD := hD0.drew
               clear hz0 hz1 hD0 hyn
               go_wp2_with fail
               try simp only [Act.put, List.setIfInBounds_toArray, List.set_cons_zero, List.set_cons_succ]
               have q_hb := Lib.hid (hb.out.trans hD)
               clear hD hb
               clear wd
               revert hy; revert q_hb; revert we; revert y
               exact key6
            intro y wd hb hy
            refine wpAny_ready (rs := [3, 14]) (by kernel_rfl) (by simp) ?_
            refine AllReady.cons rfl (fun K hK => ?_) (AllReady.cons rfl (fun K hK => ?_) AllReady.nil)
            · skip
              go_simp
              refine hK _ _ ?_
              clear hK K
              have hD : Drew wd g (wd.alloc (.cells #[.string ⟨#[]⟩, .string ⟨#[120]⟩, .string ⟨#[115, 104]⟩] 9)) := Drew.of_ext hb.out.1 ((Ext.refl _).alloc _)
              have hL := Lib.hid (And.intro (Box.new wd #[.string ⟨#[]⟩, .string ⟨#[120]⟩, .string ⟨#[115, 104]⟩] 9) (Nat.ne_of_gt hb.out.1.lt))
              generalize wd.alloc (.cells #[.string ⟨#[]⟩, .string ⟨#[120]⟩, .string ⟨#[115, 104]⟩] 9) = we at hD hL ⊢
              generalize wd.heap.size = bL at hL ⊢
              try simp only [Act.put, List.setIfInBounds_toArray, List.set_cons_zero, List.set_cons_succ]
              have q_hb := Lib.hid (hb.out.trans hD)
              have q_hy := Lib.hid (hy.out)
              clear hD hb hy
              clear wd
              have hyi := (show (y : Int) < 3 from Int.ofNat_lt.2 q_hy.out)
              refine takeYes 6 32 ?v10 rfl rfl (by kernel_rfl) (by kernel_rfl) (by kernel_rfl) (fun _ _ _ _ h => h) (by kernel_rfl) ?y10 ?r10
              case y10 => intro w; go_simp; first | done | with_reducible rfl
              simp only [Act.put, List.setIfInBounds_toArray, List.set_cons_zero, List.set_cons_succ]
              clear hyi
              revert q_hy; revert hL; revert q_hb; revert we; revert y; revert bL
              exact key3
            · skip
              go_simp
              refine (l01Next_any _ _ _ hb.out.1 (by decide)).mono ?_
              rintro e we ⟨z2, rfl, hz0, hz1, hD0⟩
              obtain ⟨z, rfl, hyn⟩ := pick_nat 3 rfl (by decide) hz0 hz1
              have hz := Lib.hid hyn
              have hD := hD0.drew
              clear hz0 hz1 hD0 hyn
              go_wp2_with fail
              try simp only [Act.put, List.setIfInBounds_toArray, List.set_cons_zero, List.set_cons_succ]
              have q_hb := Lib.hid (hb.out.trans hD)
              have q_hy := Lib.hid (hy.out)
              clear hD hb hy
              clear wd
              have pz := (show IntKind.i64.wrap ((k : Int) + (z : Int)) = ((k + z : Nat) : Int) from wrapk hs51 hks hz.out)
              have pm := minI s k z
              have pb := minB s k z
              refine takeYes 15 41 ?v11 rfl rfl (by kernel_rfl) (by kernel_rfl) (by kernel_rfl) (fun _ _ _ _ h => h) (by kernel_rfl) ?y11 ?r11
              case y11 => intro w; go_simp; first | done | with_reducible rfl
              simp only [Act.put, List.setIfInBounds_toArray, List.set_cons_zero, List.set_cons_succ]
              refine takeYes 16 42 ?v12 rfl rfl (by kernel_rfl) (by kernel_rfl) (by kernel_rfl) (fun _ _ _ _ h => h) (by kernel_rfl) ?y12 ?r12
              case y12 => intro w; go_simp; first | done | with_reducible rfl
              simp only [Act.put, List.setIfInBounds_toArray, List.set_cons_zero, List.set_cons_succ]
              refine takeYes 17 43 ?v13 rfl rfl (by kernel_rfl) (by kernel_rfl) (by kernel_rfl) (fun _ _ _ _ h => h) (by kernel_rfl) ?y13 ?r13
              case y13 => intro w; go_simp; first | done | with_reducible rfl
              simp only [Act.put, List.setIfInBounds_toArray, List.set_cons_zero, List.set_cons_succ]
              clear pz pm pb
              revert hz; revert q_hy; revert q_hb; revert we; revert z; revert y
              exact key5
           intro y z wd hb hy hz
           refine wpAny_ready (rs := [3]) (by kernel_rfl) (by simp) ?_
           refine AllReady.cons rfl (fun K hK => ?_) AllReady.nil
           skip
           go_simp
           refine hK _ _ ?_
           clear hK K
           have hD : Drew wd g (wd.alloc (.cells #[.string ⟨#[]⟩, .string ⟨#[120]⟩, .string ⟨#[115, 104]⟩] 9)) := Drew.of_ext hb.out.1 ((Ext.refl _).alloc _)
           have hL := Lib.hid (And.intro (Box.new wd #[.string ⟨#[]⟩, .string ⟨#[120]⟩, .string ⟨#[115, 104]⟩] 9) (Nat.ne_of_gt hb.out.1.lt))
           generalize wd.alloc (.cells #[.string ⟨#[]⟩, .string ⟨#[120]⟩, .string ⟨#[115, 104]⟩] 9) = we at hD hL ⊢
           generalize wd.heap.size = bL at hL ⊢
           try simp only [Act.put, List.setIfInBounds_toArray, List.set_cons_zero, List.set_cons_succ]
           have q_hb := Lib.hid (hb.out.trans hD)
           have q_hy := Lib.hid (hy.out)
           have q_hz := Lib.hid (hz.out)
           clear hD hb hy hz
           clear wd
           have hyi := (show (y : Int) < 3 from Int.ofNat_lt.2 q_hy.out)
           refine takeYes 6 32 ?v14 rfl rfl (by kernel_rfl) (by kernel_rfl) (by kernel_rfl) (fun _ _ _ _ h => h) (by kernel_rfl) ?y14 ?r14
           case y14 => intro w; go_simp; first | done | with_reducible rfl
           simp only [Act.put, List.setIfInBounds_toArray, List.set_cons_zero, List.set_cons_succ]
           clear hyi
           revert q_hz; revert q_hy; revert hL; revert q_hb; revert we; revert z; revert y; revert bL
           exact key2
          intro bL wd hb hL
          refine wpAny_ready (rs := [5]) (by kernel_rfl) (by simp) ?_
          refine AllReady.cons rfl (fun K hK => ?_) AllReady.nil
          skip
          go_simp
          refine (l01Next_any _ _ _ hb.out.1 (by decide)).mono ?_
          rintro e we ⟨z1, rfl, hz0, hz1, hD0⟩
          obtain ⟨y, rfl, hyn⟩ := pick_nat 3 rfl (by decide) hz0 hz1
          have hy := Lib.hid hyn
          have hD := hD0.drew
          clear hz0 hz1 hD0 hyn
          go_wp2_with fail
          try simp only [Act.put, List.setIfInBounds_toArray, List.set_cons_zero, List.set_cons_succ]
          have q_hb := Lib.hid (hb.out.trans hD)
          have q_hL := Lib.hid (And.intro (hL.out.1.drew hD hL.out.2) hL.out.2)
          clear hD hb hL
          clear wd
          have hyi := (show (y : Int) < 3 from Int.ofNat_lt.2 hy.out)
          refine takeYes 6 32 ?v15 rfl rfl (by kernel_rfl) (by kernel_rfl) (by kernel_rfl) (fun _ _ _ _ h => h) (by kernel_rfl) ?y15 ?r15
          case y15 => intro w; go_simp; first | done | with_reducible rfl
          simp only [Act.put, List.setIfInBounds_toArray, List.set_cons_zero, List.set_cons_succ]
          clear hyi
          revert hy; revert q_hL; revert q_hb; revert we; revert y; revert bL
          exact key3
         intro bL y wd hb hL hy
         refine wpAny_ready (rs := [7, 14]) (by kernel_rfl) (by simp) ?_
         refine AllReady.cons rfl (fun K hK => ?_) (AllReady.cons rfl (fun K hK => ?_) AllReady.nil)
         · skip
           obtain ⟨u, hc, hlz⟩ := Lits.of_box (n := 3) hL.out.1 (by kernel_rfl) rfl y hy.out
           have h1 := Lib.hid hlz
           clear hlz
           go_simp
           refine hK _ _ ?_
           clear hK K
           clear hc
           try simp only [Act.put, List.setIfInBounds_toArray, List.set_cons_zero, List.set_cons_succ]
           clear hL hy
           have p1 := (show ¬ 9223372036854775807 < k + u.size from size2 hs51 hks h1.out)
           refine takeYes 8 34 ?v16 rfl rfl (by kernel_rfl) (by kernel_rfl) (by kernel_rfl) (fun _ _ _ _ h => h) (by kernel_rfl) ?y16 ?r16
           case y16 => intro w; go_simp; first | done | with_reducible rfl
           simp only [Act.put, List.setIfInBounds_toArray, List.set_cons_zero, List.set_cons_succ]
           clear p1
           revert h1; revert hb; revert wd; revert u; revert y; revert bL
           exact key1
         · skip
           go_simp
           refine (l01Next_any _ _ _ hb.out.1 (by decide)).mono ?_
           rintro e we ⟨z2, rfl, hz0, hz1, hD0⟩
           obtain ⟨z, rfl, hyn⟩ := pick_nat 3 rfl (by decide) hz0 hz1
           have hz := Lib.hid hyn
           have hD := hD0.drew
           clear hz0 hz1 hD0 hyn
           go_wp2_with fail
           try simp only [Act.put, List.setIfInBounds_toArray, List.set_cons_zero, List.set_cons_succ]
           have q_hb := Lib.hid (hb.out.trans hD)
           have q_hL := Lib.hid (And.intro (hL.out.1.drew hD hL.out.2) hL.out.2)
           have q_hy := Lib.hid (hy.out)
           clear hD hb hL hy
           clear wd
           have pz := (show IntKind.i64.wrap ((k : Int) + (z : Int)) = ((k + z : Nat) : Int) from wrapk hs51 hks hz.out)
           have pm := minI s k z
           have pb := minB s k z
           refine takeYes 15 41 ?v17 rfl rfl (by kernel_rfl) (by kernel_rfl) (by kernel_rfl) (fun _ _ _ _ h => h) (by kernel_rfl) ?y17 ?r17
           case y17 => intro w; go_simp; first | done | with_reducible rfl
           simp only [Act.put, List.setIfInBounds_toArray, List.set_cons_zero, List.set_cons_succ]
           refine takeYes 16 42 ?v18 rfl rfl (by kernel_rfl) (by kernel_rfl) (by kernel_rfl) (fun _ _ _ _ h => h) (by kernel_rfl) ?y18 ?r18
           case y18 => intro w; go_simp; first | done | with_reducible rfl
           simp only [Act.put, List.setIfInBounds_toArray, List.set_cons_zero, List.set_cons_succ]
           refine takeYes 17 43 ?v19 rfl rfl (by kernel_rfl) (by kernel_rfl) (by kernel_rfl) (fun _ _ _ _ h => h) (by kernel_rfl) ?y19 ?r19
           case y19 => intro w; go_simp; first | done | with_reducible rfl
           simp only [Act.put, List.setIfInBounds_toArray, List.set_cons_zero, List.set_cons_succ]
           clear pz pm pb
           revert hz; revert q_hy; revert q_hL; revert q_hb; revert we; revert z; revert y; revert bL
           exact key2
        intro bL y z wd hb hL hy hz
        refine wpAny_ready (rs := [7]) (by kernel_rfl) (by simp) ?_
        refine AllReady.cons rfl (fun K hK => ?_) AllReady.nil
        skip
        obtain ⟨u, hc, hlz⟩ := Lits.of_box (n := 3) hL.out.1 (by kernel_rfl) rfl y hy.out
        have h1 := Lib.hid hlz
        clear hlz
        go_simp
        refine hK _ _ ?_
        clear hK K
        clear hc
        try simp only [Act.put, List.setIfInBounds_toArray, List.set_cons_zero, List.set_cons_succ]
        clear hL hy
        have p1 := (show ¬ 9223372036854775807 < k + u.size from size2 hs51 hks h1.out)
        refine takeYes 8 34 ?v20 rfl rfl (by kernel_rfl) (by kernel_rfl) (by kernel_rfl) (fun _ _ _ _ h => h) (by kernel_rfl) ?y20 ?r20
        case y20 => intro w; go_simp; first | done | with_reducible rfl
        simp only [Act.put, List.setIfInBounds_toArray, List.set_cons_zero, List.set_cons_succ]
        clear p1
        revert hz; revert h1; revert hb; revert wd; revert z; revert u; revert y; revert bL
        exact key0
       intro bL y u wd hb h1
       refine wpAny_ready (rs := [14]) (by kernel_rfl) (by simp) ?_
       refine AllReady.cons rfl (fun K hK => ?_) AllReady.nil
       skip
       go_simp
       refine (l01Next_any _ _ _ hb.out.1 (by decide)).mono ?_
       rintro e we ⟨z2, rfl, hz0, hz1, hD0⟩
       obtain ⟨z, rfl, hyn⟩ := pick_nat 3 rfl (by decide) hz0 hz1
       have hz := Lib.hid hyn
       have hD := hD0.drew
       clear hz0 hz1 hD0 hyn
       go_wp2_with fail
       try simp only [Act.put, List.setIfInBounds_toArray, List.set_cons_zero, List.set_cons_succ]
       have q_hb := Lib.hid (hb.out.trans hD)
       have q_h1 := Lib.hid (h1.out)
       clear hD hb h1
       clear wd
       have pz := (show IntKind.i64.wrap ((k : Int) + (z : Int)) = ((k + z : Nat) : Int) from wrapk hs51 hks hz.out)
       have pm := minI s k z
       have pb := minB s k z
       refine takeYes 15 41 ?v21 rfl rfl (by kernel_rfl) (by kernel_rfl) (by kernel_rfl) (fun _ _ _ _ h => h) (by kernel_rfl) ?y21 ?r21
       case y21 => intro w; go_simp; first | done | with_reducible rfl
       simp only [Act.put, List.setIfInBounds_toArray, List.set_cons_zero, List.set_cons_succ]
       refine takeYes 16 42 ?v22 rfl rfl (by kernel_rfl) (by kernel_rfl) (by kernel_rfl) (fun _ _ _ _ h => h) (by kernel_rfl) ?y22 ?r22
       case y22 => intro w; go_simp; first | done | with_reducible rfl
       simp only [Act.put, List.setIfInBounds_toArray, List.set_cons_zero, List.set_cons_succ]
       refine takeYes 17 43 ?v23 rfl rfl (by kernel_rfl) (by kernel_rfl) (by kernel_rfl) (fun _ _ _ _ h => h) (by kernel_rfl) ?y23 ?r23
       case y23 => intro w; go_simp; first | done | with_reducible rfl
       simp only [Act.put, List.setIfInBounds_toArray, List.set_cons_zero, List.set_cons_succ]
       clear pz pm pb
       revert hz; revert q_h1; revert q_hb; revert we; revert z; revert u; revert y; revert bL
       exact key0
      intro bL y u z wd hb h1 hz
      refine wpAny_ready (rs := [18]) (by kernel_rfl) (by simp) ?_
      refine AllReady.cons rfl (fun K hK => ?_) AllReady.nil
      skip
      have p2 : ¬ 9223372036854775807 < k + u.size + (s.size - min s.size (k + z)) := size3 hs51 hks h1.out
      go_simp
      refine hK _ _ ?_
      clear hK K
      try simp only [Act.put, List.setIfInBounds_toArray, List.set_cons_zero, List.set_cons_succ]
      refine takeYes 19 6 ?vz rfl rfl (by kernel_rfl) (by kernel_rfl) (by kernel_rfl) (fun _ _ _ _ h => h) (by kernel_rfl) ?yz ?rz
      case yz => intro w; go_simp; first | done | with_reducible rfl
      simp only [Act.put, List.setIfInBounds_toArray, List.set_cons_zero, List.set_cons_succ]
      refine wpAny_done (by kernel_rfl) ?_ _
      have hres := HR.out _ (s.extract 0 k ++ u ++ s.extract (min s.size (k + z)) s.size) (by simp only [ByteArray.size_append, ByteArray.size_extract]; have := h1.out; omega) hb.out
      go_wp2
      go_ret2
      exact hres
  · go_wp2
    go_ret2
    exact ⟨s, t, rfl, by omega, by omega, draw_ext H1.out.2 H3.out hg⟩

set_option maxRecDepth 100000 in
set_option maxHeartbeats 400000 in
theorem drawDoSoundAlike_any (a : Option Addr) (n c : Nat) (bs : List Int) (w : World) (hr : RdBy w a n bs) :
    Calls Tryz.prog 6 #[.slice a n c] w fun e w' => ∃ a1 n1 c1 zs s t, e = .returned (.tuple #[.slice a1 n1 c1, .string s, .string t]) ∧ RdI w' a1 n1 zs ∧ s.size ≤ 200 ∧ t.size ≤ 200 ∧ Ext w w' := by
  go_enter Tryz.func6, Tryz.ntmps6
  go_wp2_with fail
  refine (l01From_any _ _ _ _ _ hr).mono ?_
  rintro e w1 ⟨g, rfl, hg, hs, x1⟩
  have H1 := Lib.hid (And.intro hs (And.intro x1 (hr.ext x1)))
  clear hs x1
  go_wp2_with fail
  refine (l01DrawTwo_any _ _ _ _ _ H1.out.2.2).mono ?_
  rintro e w2 ⟨s, t, rfl, h1, h2, x2⟩
  have H2 := Lib.hid (And.intro (H1.out.1.ext x2) (H1.out.2.1.trans x2))
  clear x2
  go_wp2_with fail
  refine (l07Table_any _ _ H2.out.1).mono ?_
  rintro e w3 ⟨a3, n3, c3, zs, rfl, _, o3, hd⟩
  have H3 := Lib.hid (And.intro o3.rd (draw_ext H2.out.2 hd hg))
  clear o3 hd
  go_wp2
  go_ret3
  exact ⟨_, _, _, zs, s, t, rfl, H3.out.1, h1, h2, H3.out.2⟩

set_option maxRecDepth 100000 in
set_option maxHeartbeats 400000 in
theorem drawPhraseSound_any (a : Option Addr) (n c : Nat) (bs : List Int) (w : World) (hr : RdBy w a n bs) :
    Calls Tryz.prog 14 #[.slice a n c] w fun e w' => ∃ a1 n1 c1 zs s, e = .returned (.tuple #[.slice a1 n1 c1, .string s]) ∧ RdI w' a1 n1 zs ∧ s.size ≤ 217 ∧ Ext w w' := by
  go_enter Tryz.func14, Tryz.ntmps14
  go_wp2_with fail
  refine (l01From_any _ _ _ _ _ hr).mono ?_
  rintro e w1 ⟨g, rfl, hg, hs, x1⟩
  have hg1 := hs.lt
  have H1 := Lib.hid (And.intro hs x1)
  clear hs x1
  go_wp2_with fail
  refine (l07Table_any _ _ H1.out.1).mono ?_
  rintro e w3 ⟨a3, n3, c3, zs, rfl, _, o3, hd⟩
  have H3 := Lib.hid (And.intro o3 hd)
  clear o3 hd
  go_wp2_with fail
  refine (l01DrawPhrase_any _ _ H3.out.2.1).mono ?_
  rintro e w4 ⟨s, rfl, hsz, hd⟩
  have H4 := Lib.hid (And.intro (H3.out.1.drawn hd.2 hg1).rd (draw_ext H1.out.2 (H3.out.2.trans hd) hg))
  clear hd
  go_wp2
  go_ret2
  exact ⟨_, _, _, zs, s, rfl, H4.out.1, hsz, H4.out.2⟩

set_option maxRecDepth 100000 in
set_option maxHeartbeats 400000 in
theorem drawSoundOf_any (a : Option Addr) (n c : Nat) (bs : List Int) (w : World) (hr : RdBy w a n bs) :
    Calls Tryz.prog 17 #[.slice a n c] w fun e w' => ∃ a1 n1 c1 zs s, e = .returned (.tuple #[.slice a1 n1 c1, .string s]) ∧ RdI w' a1 n1 zs ∧ s.size ≤ 51 ∧ Ext w w' := by
  go_enter Tryz.func17, Tryz.ntmps17
  go_wp2_with fail
  refine (l01From_any _ _ _ _ _ hr).mono ?_
  rintro e w1 ⟨g, rfl, hg, hs, x1⟩
  have hg1 := hs.lt
  have H1 := Lib.hid (And.intro hs x1)
  clear hs x1
  go_wp2_with fail
  refine (l07Table_any _ _ H1.out.1).mono ?_
  rintro e w3 ⟨a3, n3, c3, zs, rfl, _, o3, hd⟩
  have H3 := Lib.hid (And.intro o3 hd)
  clear o3 hd
  go_wp2_with fail
  refine (l01DrawWord_any _ _ H3.out.2.1).mono ?_
  rintro e w4 ⟨s, rfl, hsz, hd⟩
  have H4 := Lib.hid (And.intro (H3.out.1.drawn hd.2 hg1).rd (draw_ext H1.out.2 (H3.out.2.trans hd) hg))
  clear hd
  go_wp2
  go_ret2
  exact ⟨_, _, _, zs, s, rfl, H4.out.1, hsz, H4.out.2⟩

end Go.Proofs.YtfglmoedicijkaaGreatDoor

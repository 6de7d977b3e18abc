/-
  The reference's draws of endings, tables of endings, and what goes with them.
-/
import Derived.Test.YtfglmoedicijkaaGreatDoorDT
import Derived.Test.YtfglmoedicijkaaGreatDoorNT2
import Derived.Test.YtfglmoedicijkaaGreatDoorFO
namespace Go.Proofs.YtfglmoedicijkaaGreatDoor
open Go.RowKit

def shortE (xs : List EndingV) : Prop := ∀ x ∈ xs, x.old.size ≤ 20 ∧ x.new.size ≤ 20
theorem shortE.app {xs : List EndingV} (h : shortE xs) {x : EndingV} (hx : x.old.size ≤ 20 ∧ x.new.size ≤ 20) : shortE (xs ++ [x]) := fun y hy => by
  rcases List.mem_append.1 hy with k | k
  · exact h y k
  · rw [List.mem_singleton.1 k]; exact hx
theorem shortE.ok {xs : List EndingV} (h : shortE xs) : ∀ x ∈ xs, okEnding x := fun x hx => ⟨Nat.le_trans (h x hx).1 (by decide), Nat.le_trans (h x hx).2 (by decide)⟩
def DrewEn (w : World) (g : Nat) (e : Ending) (w' : World) : Prop := ∃ x : EndingV, e = .returned (valEnding x) ∧ (x.old.size ≤ 17 ∧ x.new.size ≤ 17) ∧ Drew w g w'

set_option maxRecDepth 100000 in
set_option maxHeartbeats 8000000 in
theorem l08DrawEnding_any (g : Nat) (w : World) (hs : Src w g) :
    Calls Tryz.prog 97 #[.pointer (some ⟨g, 0, none⟩)] w (DrewEn w g) := by
  have hg := hs.lt
  have hwg : w.heap.size ≠ g := by omega
  have hLg : w.heap.size + 1 ≠ g := by omega
  have HS := Lib.hid hs
  clear hs
  go_enter Tryz.func97, Tryz.ntmps97
  go_wp2
  apply withKey
  case h =>
   intro key0
   apply withKey
   case h =>
    intro key1
    apply withKey
    case h =>
     intro key2
     apply withKey
     case h =>
      intro key3
      apply withKey
      case h =>
       intro key4
       apply withKey
       case h =>
        intro key5
        apply withKey
        case h =>
         intro key6
         apply withKey
         case h =>
          intro key7
          apply withKey
          case h =>
           intro key8
           apply withKey
           case h =>
            intro key9
            apply withKey
            case h =>
             intro key10
             apply withKey
             case h =>
              intro key11
              apply withKey
              case h =>
               intro key12
               apply withKey
               case h =>
                intro key13
                apply withKey
                case h =>
                 intro key14
                 apply withKey
                 case h =>
                  intro key15
                  apply withKey
                  case h =>
                   intro key16
                   apply withKey
                   case h =>
                    intro key17
                    apply withKey
                    case h =>
                     intro key18
                     apply withKey
                     case h =>
                      intro key19
                      apply withKey
                      case h =>
                       intro key20
                       apply withKey
                       case h =>
                        intro key21
                        refine wp_region_any (by kernel_rfl) ?_
                        try (change wpAny _ _ _ _ _ _ _ (World.drew _))
                        have hb := Lib.hid (And.intro (Drew.of_ext (HS.out.ext ((Ext.refl w).alloc (.cells #[.string ⟨#[]⟩, .string ⟨#[]⟩, .int .i64 0] 75))) (((Ext.refl _).alloc (.cells #[.string ⟨#[]⟩, .string ⟨#[97]⟩, .string ⟨#[101]⟩, .string ⟨#[115]⟩, .string ⟨#[98, 121]⟩, .string ⟨#[116, 111, 110]⟩, .string ⟨#[101, 110]⟩, .string ⟨#[114, 105]⟩, .string ⟨#[110, 97]⟩] 9)).drew)) (((Box.new w #[.string ⟨#[]⟩, .string ⟨#[]⟩, .int .i64 0] 75).ext ((Ext.refl _).alloc (.cells #[.string ⟨#[]⟩, .string ⟨#[97]⟩, .string ⟨#[101]⟩, .string ⟨#[115]⟩, .string ⟨#[98, 121]⟩, .string ⟨#[116, 111, 110]⟩, .string ⟨#[101, 110]⟩, .string ⟨#[114, 105]⟩, .string ⟨#[110, 97]⟩] 9))).ext (Ext.refl _).drew))
                        have hL := Lib.hid (And.intro ((Box.new (w.alloc (.cells #[.string ⟨#[]⟩, .string ⟨#[]⟩, .int .i64 0] 75)) #[.string ⟨#[]⟩, .string ⟨#[97]⟩, .string ⟨#[101]⟩, .string ⟨#[115]⟩, .string ⟨#[98, 121]⟩, .string ⟨#[116, 111, 110]⟩, .string ⟨#[101, 110]⟩, .string ⟨#[114, 105]⟩, .string ⟨#[110, 97]⟩] 9).ext (Ext.refl _).drew) (show (w.alloc (.cells #[.string ⟨#[]⟩, .string ⟨#[]⟩, .int .i64 0] 75)).heap.size ≠ g ∧ w.heap.size < (w.alloc (.cells #[.string ⟨#[]⟩, .string ⟨#[]⟩, .int .i64 0] 75)).heap.size from ⟨by rw [World.size_alloc]; exact hLg, by rw [World.size_alloc]; exact Nat.lt_succ_self _⟩))
                        simp only [World.size_alloc] at hL
                        generalize ((w.alloc (.cells #[.string ⟨#[]⟩, .string ⟨#[]⟩, .int .i64 0] 75)).alloc (.cells #[.string ⟨#[]⟩, .string ⟨#[97]⟩, .string ⟨#[101]⟩, .string ⟨#[115]⟩, .string ⟨#[98, 121]⟩, .string ⟨#[116, 111, 110]⟩, .string ⟨#[101, 110]⟩, .string ⟨#[114, 105]⟩, .string ⟨#[110, 97]⟩] 9)).drew = wd at hb hL ⊢
                        refine takeYes 0 6 ?v1 rfl rfl (by kernel_rfl) (by kernel_rfl) (by kernel_rfl) (fun _ _ _ _ h => h) (by kernel_rfl) ?y1 ?r1
                        case y1 => intro w; go_simp; first | done | with_reducible rfl
                        simp only [Act.put, List.setIfInBounds_toArray, List.set_cons_zero, List.set_cons_succ]
                        refine takeYes 1 7 ?v2 rfl rfl (by kernel_rfl) (by kernel_rfl) (by kernel_rfl) (fun _ _ _ _ h => h) (by kernel_rfl) ?y2 ?r2
                        case y2 => intro w; go_simp; first | done | with_reducible rfl
                        simp only [Act.put, List.setIfInBounds_toArray, List.set_cons_zero, List.set_cons_succ]
                        refine takeYes 5 11 ?v3 rfl rfl (by kernel_rfl) (by kernel_rfl) (by kernel_rfl) (fun _ _ _ _ h => h) (by kernel_rfl) ?y3 ?r3
                        case y3 => intro w; go_simp; first | done | with_reducible rfl
                        simp only [Act.put, List.setIfInBounds_toArray, List.set_cons_zero, List.set_cons_succ]
                        refine takeYes 6 12 ?v4 rfl rfl (by kernel_rfl) (by kernel_rfl) (by kernel_rfl) (fun _ _ _ _ h => h) (by kernel_rfl) ?y4 ?r4
                        case y4 => intro w; go_simp; first | done | with_reducible rfl
                        simp only [Act.put, List.setIfInBounds_toArray, List.set_cons_zero, List.set_cons_succ]
                        refine takeYes 10 16 ?v5 rfl rfl (by kernel_rfl) (by kernel_rfl) (by kernel_rfl) (fun _ _ _ _ h => h) (by kernel_rfl) ?y5 ?r5
                        case y5 => intro w; go_simp; first | done | with_reducible rfl
                        simp only [Act.put, List.setIfInBounds_toArray, List.set_cons_zero, List.set_cons_succ]
                        revert hL; revert hb; revert wd
                        exact key21
                       intro wd hb hL
                       refine wpAny_ready (rs := [2, 14]) (by kernel_rfl) (by simp) ?_
                       refine AllReady.cons rfl (fun K hK => ?_) (AllReady.cons rfl (fun K hK => ?_) AllReady.nil)
                       · skip
                         go_simp
                         refine (l01Next_any _ _ _ hb.out.1.1 (by decide)).mono ?_
                         rintro e we ⟨z1, rfl, hz0, hz1, hD0⟩
                         obtain ⟨y1, rfl, hyn⟩ := pick_nat 9 rfl (by decide) hz0 hz1
                         have hy1 := Lib.hid hyn
                         have hD := hD0.drew
                         clear hz0 hz1 hD0 hyn
                         go_wp2_with fail
                         try simp only [Act.put, List.setIfInBounds_toArray, List.set_cons_zero, List.set_cons_succ]
                         have q_hb := Lib.hid (And.intro (hb.out.1.trans hD) (hb.out.2.drew hD hwg))
                         have q_hL := Lib.hid (And.intro (hL.out.1.drew hD hL.out.2.1) hL.out.2)
                         clear hD hb hL
                         clear wd
                         have hy1i := (show (y1 : Int) < 9 from Int.ofNat_lt.2 hy1.out)
                         refine takeYes 3 9 ?v6 rfl rfl (by kernel_rfl) (by kernel_rfl) (by kernel_rfl) (fun _ _ _ _ h => h) (by kernel_rfl) ?y6 ?r6
                         case y6 => intro w; go_simp; first | done | with_reducible rfl
                         simp only [Act.put, List.setIfInBounds_toArray, List.set_cons_zero, List.set_cons_succ]
                         clear hy1i
                         revert hy1; revert q_hL; revert q_hb; revert we; revert y1
                         exact key19
                       · skip
                         go_simp
                         refine hK _ _ ?_
                         clear hK K
                         have hD : Drew wd g (wd.alloc (.cells #[.string ⟨#[]⟩, .string ⟨#[]⟩, .int .i64 0] 75)) := Drew.of_ext hb.out.1.1 ((Ext.refl _).alloc _)
                         have h14 := Lib.hid (And.intro (Box.new wd #[.string ⟨#[]⟩, .string ⟨#[]⟩, .int .i64 0] 75) (show wd.heap.size ≠ g ∧ w.heap.size < wd.heap.size from ⟨Nat.ne_of_gt hb.out.1.1.lt, hb.out.2.lt⟩))
                         generalize wd.alloc (.cells #[.string ⟨#[]⟩, .string ⟨#[]⟩, .int .i64 0] 75) = we at hD h14 ⊢
                         generalize wd.heap.size = b14 at h14 ⊢
                         try simp only [Act.put, List.setIfInBounds_toArray, List.set_cons_zero, List.set_cons_succ]
                         have q_hb := Lib.hid (And.intro (hb.out.1.trans hD) (hb.out.2.drew hD hwg))
                         have q_hL := Lib.hid (And.intro (hL.out.1.drew hD hL.out.2.1) hL.out.2)
                         clear hD hb hL
                         clear wd
                         revert h14; revert q_hL; revert q_hb; revert we; revert b14
                         exact key20
                      intro b14 wd hb hL h14
                      refine wpAny_ready (rs := [2]) (by kernel_rfl) (by simp) ?_
                      refine AllReady.cons rfl (fun K hK => ?_) AllReady.nil
                      skip
                      go_simp
                      refine (l01Next_any _ _ _ hb.out.1.1 (by decide)).mono ?_
                      rintro e we ⟨z1, rfl, hz0, hz1, hD0⟩
                      obtain ⟨y1, rfl, hyn⟩ := pick_nat 9 rfl (by decide) hz0 hz1
                      have hy1 := Lib.hid hyn
                      have hD := hD0.drew
                      clear hz0 hz1 hD0 hyn
                      go_wp2_with fail
                      try simp only [Act.put, List.setIfInBounds_toArray, List.set_cons_zero, List.set_cons_succ]
                      have q_hb := Lib.hid (And.intro (hb.out.1.trans hD) (hb.out.2.drew hD hwg))
                      have q_hL := Lib.hid (And.intro (hL.out.1.drew hD hL.out.2.1) hL.out.2)
                      have q_h14 := Lib.hid (And.intro (h14.out.1.drew hD h14.out.2.1) h14.out.2)
                      clear hD hb hL h14
                      clear wd
                      have hy1i := (show (y1 : Int) < 9 from Int.ofNat_lt.2 hy1.out)
                      refine takeYes 3 9 ?v7 rfl rfl (by kernel_rfl) (by kernel_rfl) (by kernel_rfl) (fun _ _ _ _ h => h) (by kernel_rfl) ?y7 ?r7
                      case y7 => intro w; go_simp; first | done | with_reducible rfl
                      simp only [Act.put, List.setIfInBounds_toArray, List.set_cons_zero, List.set_cons_succ]
                      clear hy1i
                      revert q_h14; revert hy1; revert q_hL; revert q_hb; revert we; revert b14; revert y1
                      exact key18
                     intro y1 wd hb hL hy1
                     refine wpAny_ready (rs := [4, 7, 14]) (by kernel_rfl) (by simp) ?_
                     refine AllReady.cons rfl (fun K hK => ?_) (AllReady.cons rfl (fun K hK => ?_) (AllReady.cons rfl (fun K hK => ?_) AllReady.nil))
                     · skip
                       obtain ⟨s1, hc, hlz⟩ := Lits.of_box (n := 9) hL.out.1 (by kernel_rfl) rfl y1 hy1.out
                       have h1 := Lib.hid hlz
                       clear hlz
                       go_simp
                       refine hK _ _ ?_
                       clear hK K
                       clear hc
                       try simp only [Act.put, List.setIfInBounds_toArray, List.set_cons_zero, List.set_cons_succ]
                       clear hy1
                       revert h1; revert hL; revert hb; revert wd; revert s1; revert y1
                       exact key9
                     · skip
                       go_simp
                       refine (l01Next_any _ _ _ hb.out.1.1 (by decide)).mono ?_
                       rintro e we ⟨z2, rfl, hz0, hz1, hD0⟩
                       obtain ⟨y2, rfl, hyn⟩ := pick_nat 9 rfl (by decide) hz0 hz1
                       have hy2 := Lib.hid hyn
                       have hD := hD0.drew
                       clear hz0 hz1 hD0 hyn
                       go_wp2_with fail
                       try simp only [Act.put, List.setIfInBounds_toArray, List.set_cons_zero, List.set_cons_succ]
                       have q_hb := Lib.hid (And.intro (hb.out.1.trans hD) (hb.out.2.drew hD hwg))
                       have q_hL := Lib.hid (And.intro (hL.out.1.drew hD hL.out.2.1) hL.out.2)
                       have q_hy1 := Lib.hid (hy1.out)
                       clear hD hb hL hy1
                       clear wd
                       have hy2i := (show (y2 : Int) < 9 from Int.ofNat_lt.2 hy2.out)
                       refine takeYes 8 14 ?v8 rfl rfl (by kernel_rfl) (by kernel_rfl) (by kernel_rfl) (fun _ _ _ _ h => h) (by kernel_rfl) ?y8 ?r8
                       case y8 => intro w; go_simp; first | done | with_reducible rfl
                       simp only [Act.put, List.setIfInBounds_toArray, List.set_cons_zero, List.set_cons_succ]
                       clear hy2i
                       revert hy2; revert q_hy1; revert q_hL; revert q_hb; revert we; revert y2; revert y1
                       exact key17
                     · skip
                       go_simp
                       refine hK _ _ ?_
                       clear hK K
                       have hD : Drew wd g (wd.alloc (.cells #[.string ⟨#[]⟩, .string ⟨#[]⟩, .int .i64 0] 75)) := Drew.of_ext hb.out.1.1 ((Ext.refl _).alloc _)
                       have h14 := Lib.hid (And.intro (Box.new wd #[.string ⟨#[]⟩, .string ⟨#[]⟩, .int .i64 0] 75) (show wd.heap.size ≠ g ∧ w.heap.size < wd.heap.size from ⟨Nat.ne_of_gt hb.out.1.1.lt, hb.out.2.lt⟩))
                       generalize wd.alloc (.cells #[.string ⟨#[]⟩, .string ⟨#[]⟩, .int .i64 0] 75) = we at hD h14 ⊢
                       generalize wd.heap.size = b14 at h14 ⊢
                       try simp only [Act.put, List.setIfInBounds_toArray, List.set_cons_zero, List.set_cons_succ]
                       have q_hb := Lib.hid (And.intro (hb.out.1.trans hD) (hb.out.2.drew hD hwg))
                       have q_hL := Lib.hid (And.intro (hL.out.1.drew hD hL.out.2.1) hL.out.2)
                       have q_hy1 := Lib.hid (hy1.out)
                       clear hD hb hL hy1
                       clear wd
                       revert h14; revert q_hy1; revert q_hL; revert q_hb; revert we; revert b14; revert y1
                       exact key18
                    intro y1 b14 wd hb hL hy1 h14
                    refine wpAny_ready (rs := [4, 7]) (by kernel_rfl) (by simp) ?_
                    refine AllReady.cons rfl (fun K hK => ?_) (AllReady.cons rfl (fun K hK => ?_) AllReady.nil)
                    · skip
                      obtain ⟨s1, hc, hlz⟩ := Lits.of_box (n := 9) hL.out.1 (by kernel_rfl) rfl y1 hy1.out
                      have h1 := Lib.hid hlz
                      clear hlz
                      go_simp
                      refine hK _ _ ?_
                      clear hK K
                      clear hc
                      try simp only [Act.put, List.setIfInBounds_toArray, List.set_cons_zero, List.set_cons_succ]
                      clear hy1
                      revert h14; revert h1; revert hL; revert hb; revert wd; revert b14; revert s1; revert y1
                      exact key8
                    · skip
                      go_simp
                      refine (l01Next_any _ _ _ hb.out.1.1 (by decide)).mono ?_
                      rintro e we ⟨z2, rfl, hz0, hz1, hD0⟩
                      obtain ⟨y2, rfl, hyn⟩ := pick_nat 9 rfl (by decide) hz0 hz1
                      have hy2 := Lib.hid hyn
                      have hD := hD0.drew
                      clear hz0 hz1 hD0 hyn
                      go_wp2_with fail
                      try simp only [Act.put, List.setIfInBounds_toArray, List.set_cons_zero, List.set_cons_succ]
                      have q_hb := Lib.hid (And.intro (hb.out.1.trans hD) (hb.out.2.drew hD hwg))
                      have q_hL := Lib.hid (And.intro (hL.out.1.drew hD hL.out.2.1) hL.out.2)
                      have q_hy1 := Lib.hid (hy1.out)
                      have q_h14 := Lib.hid (And.intro (h14.out.1.drew hD h14.out.2.1) h14.out.2)
                      clear hD hb hL hy1 h14
                      clear wd
                      have hy2i := (show (y2 : Int) < 9 from Int.ofNat_lt.2 hy2.out)
                      refine takeYes 8 14 ?v9 rfl rfl (by kernel_rfl) (by kernel_rfl) (by kernel_rfl) (fun _ _ _ _ h => h) (by kernel_rfl) ?y9 ?r9
                      case y9 => intro w; go_simp; first | done | with_reducible rfl
                      simp only [Act.put, List.setIfInBounds_toArray, List.set_cons_zero, List.set_cons_succ]
                      clear hy2i
                      revert q_h14; revert hy2; revert q_hy1; revert q_hL; revert q_hb; revert we; revert b14; revert y2; revert y1
                      exact key16
                   intro y1 y2 wd hb hL hy1 hy2
                   refine wpAny_ready (rs := [4, 9, 11, 14]) (by kernel_rfl) (by simp) ?_
                   refine AllReady.cons rfl (fun K hK => ?_) (AllReady.cons rfl (fun K hK => ?_) (AllReady.cons rfl (fun K hK => ?_) (AllReady.cons rfl (fun K hK => ?_) AllReady.nil)))
                   · skip
                     obtain ⟨s1, hc, hlz⟩ := Lits.of_box (n := 9) hL.out.1 (by kernel_rfl) rfl y1 hy1.out
                     have h1 := Lib.hid hlz
                     clear hlz
                     go_simp
                     refine hK _ _ ?_
                     clear hK K
                     clear hc
                     try simp only [Act.put, List.setIfInBounds_toArray, List.set_cons_zero, List.set_cons_succ]
                     clear hy1
                     revert hy2; revert h1; revert hL; revert hb; revert wd; revert y2; revert s1; revert y1
                     exact key7
                   · skip
                     obtain ⟨s2, hc, hlz⟩ := Lits.of_box (n := 9) hL.out.1 (by kernel_rfl) rfl y2 hy2.out
                     have h2 := Lib.hid hlz
                     clear hlz
                     go_simp
                     refine hK _ _ ?_
                     clear hK K
                     clear hc
                     try simp only [Act.put, List.setIfInBounds_toArray, List.set_cons_zero, List.set_cons_succ]
                     clear hy2
                     revert h2; revert hy1; revert hL; revert hb; revert wd; revert s2; revert y2; revert y1
                     exact key13
                   · skip
                     go_simp
                     refine (l01Next_any _ _ _ hb.out.1.1 (by decide)).mono ?_
                     rintro e we ⟨z3, rfl, hz0, hz1, hD0⟩
                     obtain ⟨y3, rfl, hyn⟩ := pick_nat 4 rfl (by decide) hz0 hz1
                     have hy3 := Lib.hid hyn
                     have hD := hD0.drew
                     clear hz0 hz1 hD0 hyn
                     go_wp2_with fail
                     try simp only [Act.put, List.setIfInBounds_toArray, List.set_cons_zero, List.set_cons_succ]
                     have q_hb := Lib.hid (And.intro (hb.out.1.trans hD) (hb.out.2.drew hD hwg))
                     have q_hL := Lib.hid (And.intro (hL.out.1.drew hD hL.out.2.1) hL.out.2)
                     have q_hy1 := Lib.hid (hy1.out)
                     have q_hy2 := Lib.hid (hy2.out)
                     clear hD hb hL hy1 hy2
                     clear wd
                     have hy3i := (show IntKind.i64.wrap (1 + (y3 : Int)) = 1 + (y3 : Int) from IntWalk.i64_in _ (by have := hy3.out; omega))
                     refine takeYes 12 18 ?v10 rfl rfl (by kernel_rfl) (by kernel_rfl) (by kernel_rfl) (fun _ _ _ _ h => h) (by kernel_rfl) ?y10 ?r10
                     case y10 => intro w; go_simp; first | done | with_reducible rfl
                     simp only [Act.put, List.setIfInBounds_toArray, List.set_cons_zero, List.set_cons_succ]
                     clear hy3i
                     revert hy3; revert q_hy2; revert q_hy1; revert q_hL; revert q_hb; revert we; revert y3; revert y2; revert y1
                     exact key15
                   · skip
                     go_simp
                     refine hK _ _ ?_
                     clear hK K
                     have hD : Drew wd g (wd.alloc (.cells #[.string ⟨#[]⟩, .string ⟨#[]⟩, .int .i64 0] 75)) := Drew.of_ext hb.out.1.1 ((Ext.refl _).alloc _)
                     have h14 := Lib.hid (And.intro (Box.new wd #[.string ⟨#[]⟩, .string ⟨#[]⟩, .int .i64 0] 75) (show wd.heap.size ≠ g ∧ w.heap.size < wd.heap.size from ⟨Nat.ne_of_gt hb.out.1.1.lt, hb.out.2.lt⟩))
                     generalize wd.alloc (.cells #[.string ⟨#[]⟩, .string ⟨#[]⟩, .int .i64 0] 75) = we at hD h14 ⊢
                     generalize wd.heap.size = b14 at h14 ⊢
                     try simp only [Act.put, List.setIfInBounds_toArray, List.set_cons_zero, List.set_cons_succ]
                     have q_hb := Lib.hid (And.intro (hb.out.1.trans hD) (hb.out.2.drew hD hwg))
                     have q_hL := Lib.hid (And.intro (hL.out.1.drew hD hL.out.2.1) hL.out.2)
                     have q_hy1 := Lib.hid (hy1.out)
                     have q_hy2 := Lib.hid (hy2.out)
                     clear hD hb hL hy1 hy2
                     clear wd
                     revert h14; revert q_hy2; revert q_hy1; revert q_hL; revert q_hb; revert we; revert b14; revert y2; revert y1
                     exact key16
                  intro y1 y2 b14 wd hb hL hy1 hy2 h14
                  refine wpAny_ready (rs := [4, 9, 11]) (by kernel_rfl) (by simp) ?_
                  refine AllReady.cons rfl (fun K hK => ?_) (AllReady.cons rfl (fun K hK => ?_) (AllReady.cons rfl (fun K hK => ?_) AllReady.nil))
                  · skip
                    obtain ⟨s1, hc, hlz⟩ := Lits.of_box (n := 9) hL.out.1 (by kernel_rfl) rfl y1 hy1.out
                    have h1 := Lib.hid hlz
                    clear hlz
                    go_simp
                    refine hK _ _ ?_
                    clear hK K
                    clear hc
                    try simp only [Act.put, List.setIfInBounds_toArray, List.set_cons_zero, List.set_cons_succ]
                    clear hy1
                    revert h14; revert hy2; revert h1; revert hL; revert hb; revert wd; revert b14; revert y2; revert s1; revert y1
                    exact key6
                  · skip
                    obtain ⟨s2, hc, hlz⟩ := Lits.of_box (n := 9) hL.out.1 (by kernel_rfl) rfl y2 hy2.out
                    have h2 := Lib.hid hlz
                    clear hlz
                    go_simp
                    refine hK _ _ ?_
                    clear hK K
                    clear hc
                    try simp only [Act.put, List.setIfInBounds_toArray, List.set_cons_zero, List.set_cons_succ]
                    clear hy2
                    revert h14; revert h2; revert hy1; revert hL; revert hb; revert wd; revert b14; revert s2; revert y2; revert y1
                    exact key12
                  · skip
                    go_simp
                    refine (l01Next_any _ _ _ hb.out.1.1 (by decide)).mono ?_
                    rintro e we ⟨z3, rfl, hz0, hz1, hD0⟩
                    obtain ⟨y3, rfl, hyn⟩ := pick_nat 4 rfl (by decide) hz0 hz1
                    have hy3 := Lib.hid hyn
                    have hD := hD0.drew
                    clear hz0 hz1 hD0 hyn
                    go_wp2_with fail
                    try simp only [Act.put, List.setIfInBounds_toArray, List.set_cons_zero, List.set_cons_succ]
                    have q_hb := Lib.hid (And.intro (hb.out.1.trans hD) (hb.out.2.drew hD hwg))
                    have q_hL := Lib.hid (And.intro (hL.out.1.drew hD hL.out.2.1) hL.out.2)
                    have q_hy1 := Lib.hid (hy1.out)
                    have q_hy2 := Lib.hid (hy2.out)
                    have q_h14 := Lib.hid (And.intro (h14.out.1.drew hD h14.out.2.1) h14.out.2)
                    clear hD hb hL hy1 hy2 h14
                    clear wd
                    have hy3i := (show IntKind.i64.wrap (1 + (y3 : Int)) = 1 + (y3 : Int) from IntWalk.i64_in _ (by have := hy3.out; omega))
                    refine takeYes 12 18 ?v11 rfl rfl (by kernel_rfl) (by kernel_rfl) (by kernel_rfl) (fun _ _ _ _ h => h) (by kernel_rfl) ?y11 ?r11
                    case y11 => intro w; go_simp; first | done | with_reducible rfl
                    simp only [Act.put, List.setIfInBounds_toArray, List.set_cons_zero, List.set_cons_succ]
                    clear hy3i
                    revert q_h14; revert hy3; revert q_hy2; revert q_hy1; revert q_hL; revert q_hb; revert we; revert b14; revert y3; revert y2; revert y1
                    exact key14
                 intro y1 y2 y3 wd hb hL hy1 hy2 hy3
                 refine wpAny_ready (rs := [4, 9, 14]) (by kernel_rfl) (by simp) ?_
                 refine AllReady.cons rfl (fun K hK => ?_) (AllReady.cons rfl (fun K hK => ?_) (AllReady.cons rfl (fun K hK => ?_) AllReady.nil))
                 · skip
                   obtain ⟨s1, hc, hlz⟩ := Lits.of_box (n := 9) hL.out.1 (by kernel_rfl) rfl y1 hy1.out
                   have h1 := Lib.hid hlz
                   clear hlz
                   go_simp
                   refine hK _ _ ?_
                   clear hK K
                   clear hc
                   try simp only [Act.put, List.setIfInBounds_toArray, List.set_cons_zero, List.set_cons_succ]
                   clear hy1
                   revert hy3; revert hy2; revert h1; revert hL; revert hb; revert wd; revert y3; revert y2; revert s1; revert y1
                   exact key5
                 · skip
                   obtain ⟨s2, hc, hlz⟩ := Lits.of_box (n := 9) hL.out.1 (by kernel_rfl) rfl y2 hy2.out
                   have h2 := Lib.hid hlz
                   clear hlz
                   go_simp
                   refine hK _ _ ?_
                   clear hK K
                   clear hc
                   try simp only [Act.put, List.setIfInBounds_toArray, List.set_cons_zero, List.set_cons_succ]
                   clear hy2
                   revert hy3; revert h2; revert hy1; revert hL; revert hb; revert wd; revert y3; revert s2; revert y2; revert y1
                   exact key11
                 · skip
                   go_simp
                   refine hK _ _ ?_
                   clear hK K
                   have hD : Drew wd g (wd.alloc (.cells #[.string ⟨#[]⟩, .string ⟨#[]⟩, .int .i64 0] 75)) := Drew.of_ext hb.out.1.1 ((Ext.refl _).alloc _)
                   have h14 := Lib.hid (And.intro (Box.new wd #[.string ⟨#[]⟩, .string ⟨#[]⟩, .int .i64 0] 75) (show wd.heap.size ≠ g ∧ w.heap.size < wd.heap.size from ⟨Nat.ne_of_gt hb.out.1.1.lt, hb.out.2.lt⟩))
                   generalize wd.alloc (.cells #[.string ⟨#[]⟩, .string ⟨#[]⟩, .int .i64 0] 75) = we at hD h14 ⊢
                   generalize wd.heap.size = b14 at h14 ⊢
                   try simp only [Act.put, List.setIfInBounds_toArray, List.set_cons_zero, List.set_cons_succ]
                   have q_hb := Lib.hid (And.intro (hb.out.1.trans hD) (hb.out.2.drew hD hwg))
                   have q_hL := Lib.hid (And.intro (hL.out.1.drew hD hL.out.2.1) hL.out.2)
                   have q_hy1 := Lib.hid (hy1.out)
                   have q_hy2 := Lib.hid (hy2.out)
                   have q_hy3 := Lib.hid (hy3.out)
                   clear hD hb hL hy1 hy2 hy3
                   clear wd
                   revert h14; revert q_hy3; revert q_hy2; revert q_hy1; revert q_hL; revert q_hb; revert we; revert b14; revert y3; revert y2; revert y1
                   exact key14
                intro y1 y2 y3 b14 wd hb hL hy1 hy2 hy3 h14
                refine wpAny_ready (rs := [4, 9]) (by kernel_rfl) (by simp) ?_
                refine AllReady.cons rfl (fun K hK => ?_) (AllReady.cons rfl (fun K hK => ?_) AllReady.nil)
                · skip
                  obtain ⟨s1, hc, hlz⟩ := Lits.of_box (n := 9) hL.out.1 (by kernel_rfl) rfl y1 hy1.out
                  have h1 := Lib.hid hlz
                  clear hlz
                  go_simp
                  refine hK _ _ ?_
                  clear hK K
                  clear hc
                  try simp only [Act.put, List.setIfInBounds_toArray, List.set_cons_zero, List.set_cons_succ]
                  clear hy1
                  revert h14; revert hy3; revert hy2; revert h1; revert hL; revert hb; revert wd; revert b14; revert y3; revert y2; revert s1; revert y1
                  exact key4
                · skip
                  obtain ⟨s2, hc, hlz⟩ := Lits.of_box (n := 9) hL.out.1 (by kernel_rfl) rfl y2 hy2.out
                  have h2 := Lib.hid hlz
                  clear hlz
                  go_simp
                  refine hK _ _ ?_
                  clear hK K
                  clear hc
                  try simp only [Act.put, List.setIfInBounds_toArray, List.set_cons_zero, List.set_cons_succ]
                  clear hy2
                  revert h14; revert hy3; revert h2; revert hy1; revert hL; revert hb; revert wd; revert b14; revert y3; revert s2; revert y2; revert y1
                  exact key10
               intro y1 y2 s2 wd hb hL hy1 h2
               refine wpAny_ready (rs := [4, 11, 14]) (by kernel_rfl) (by simp) ?_
               refine AllReady.cons rfl (fun K hK => ?_) (AllReady.cons rfl (fun K hK => ?_) (AllReady.cons rfl (fun K hK => ?_) AllReady.nil))
               · skip
                 obtain ⟨s1, hc, hlz⟩ := Lits.of_box (n := 9) hL.out.1 (by kernel_rfl) rfl y1 hy1.out
                 have h1 := Lib.hid hlz
                 clear hlz
                 go_simp
                 refine hK _ _ ?_
                 clear hK K
                 clear hc
                 try simp only [Act.put, List.setIfInBounds_toArray, List.set_cons_zero, List.set_cons_succ]
                 clear hy1
                 revert h2; revert h1; revert hL; revert hb; revert wd; revert s2; revert y2; revert s1; revert y1
                 exact key3
               · skip
                 go_simp
                 refine (l01Next_any _ _ _ hb.out.1.1 (by decide)).mono ?_
                 rintro e we ⟨z3, rfl, hz0, hz1, hD0⟩
                 obtain ⟨y3, rfl, hyn⟩ := pick_nat 4 rfl (by decide) hz0 hz1
                 have hy3 := Lib.hid hyn
                 have hD := hD0.drew
                 clear hz0 hz1 hD0 hyn
                 go_wp2_with fail
                 try simp only [Act.put, List.setIfInBounds_toArray, List.set_cons_zero, List.set_cons_succ]
                 have q_hb := Lib.hid (And.intro (hb.out.1.trans hD) (hb.out.2.drew hD hwg))
                 have q_hL := Lib.hid (And.intro (hL.out.1.drew hD hL.out.2.1) hL.out.2)
                 have q_hy1 := Lib.hid (hy1.out)
                 have q_h2 := Lib.hid (h2.out)
                 clear hD hb hL hy1 h2
                 clear wd
                 have hy3i := (show IntKind.i64.wrap (1 + (y3 : Int)) = 1 + (y3 : Int) from IntWalk.i64_in _ (by have := hy3.out; omega))
                 refine takeYes 12 18 ?v12 rfl rfl (by kernel_rfl) (by kernel_rfl) (by kernel_rfl) (fun _ _ _ _ h => h) (by kernel_rfl) ?y12 ?r12
                 case y12 => intro w; go_simp; first | done | with_reducible rfl
                 simp only [Act.put, List.setIfInBounds_toArray, List.set_cons_zero, List.set_cons_succ]
                 clear hy3i
                 revert hy3; revert q_h2; revert q_hy1; revert q_hL; revert q_hb; revert we; revert y3; revert s2; revert y2; revert y1
                 exact key11
               · skip
                 go_simp
                 refine hK _ _ ?_
                 clear hK K
                 have hD : Drew wd g (wd.alloc (.cells #[.string ⟨#[]⟩, .string ⟨#[]⟩, .int .i64 0] 75)) := Drew.of_ext hb.out.1.1 ((Ext.refl _).alloc _)
                 have h14 := Lib.hid (And.intro (Box.new wd #[.string ⟨#[]⟩, .string ⟨#[]⟩, .int .i64 0] 75) (show wd.heap.size ≠ g ∧ w.heap.size < wd.heap.size from ⟨Nat.ne_of_gt hb.out.1.1.lt, hb.out.2.lt⟩))
                 generalize wd.alloc (.cells #[.string ⟨#[]⟩, .string ⟨#[]⟩, .int .i64 0] 75) = we at hD h14 ⊢
                 generalize wd.heap.size = b14 at h14 ⊢
                 try simp only [Act.put, List.setIfInBounds_toArray, List.set_cons_zero, List.set_cons_succ]
                 have q_hb := Lib.hid (And.intro (hb.out.1.trans hD) (hb.out.2.drew hD hwg))
                 have q_hL := Lib.hid (And.intro (hL.out.1.drew hD hL.out.2.1) hL.out.2)
                 have q_hy1 := Lib.hid (hy1.out)
                 have q_h2 := Lib.hid (h2.out)
                 clear hD hb hL hy1 h2
                 clear wd
                 revert h14; revert q_h2; revert q_hy1; revert q_hL; revert q_hb; revert we; revert b14; revert s2; revert y2; revert y1
                 exact key12
              intro y1 y2 s2 b14 wd hb hL hy1 h2 h14
              refine wpAny_ready (rs := [4, 11]) (by kernel_rfl) (by simp) ?_
              refine AllReady.cons rfl (fun K hK => ?_) (AllReady.cons rfl (fun K hK => ?_) AllReady.nil)
              · skip
                obtain ⟨s1, hc, hlz⟩ := Lits.of_box (n := 9) hL.out.1 (by kernel_rfl) rfl y1 hy1.out
                have h1 := Lib.hid hlz
                clear hlz
                go_simp
                refine hK _ _ ?_
                clear hK K
                clear hc
                try simp only [Act.put, List.setIfInBounds_toArray, List.set_cons_zero, List.set_cons_succ]
                clear hy1
                revert h14; revert h2; revert h1; revert hL; revert hb; revert wd; revert b14; revert s2; revert y2; revert s1; revert y1
                exact key2
              · skip
                go_simp
                refine (l01Next_any _ _ _ hb.out.1.1 (by decide)).mono ?_
                rintro e we ⟨z3, rfl, hz0, hz1, hD0⟩
                obtain ⟨y3, rfl, hyn⟩ := pick_nat 4 rfl (by decide) hz0 hz1
                have hy3 := Lib.hid hyn
                have hD := hD0.drew
                clear hz0 hz1 hD0 hyn
                go_wp2_with fail
                try simp only [Act.put, List.setIfInBounds_toArray, List.set_cons_zero, List.set_cons_succ]
                have q_hb := Lib.hid (And.intro (hb.out.1.trans hD) (hb.out.2.drew hD hwg))
                have q_hL := Lib.hid (And.intro (hL.out.1.drew hD hL.out.2.1) hL.out.2)
                have q_hy1 := Lib.hid (hy1.out)
                have q_h2 := Lib.hid (h2.out)
                have q_h14 := Lib.hid (And.intro (h14.out.1.drew hD h14.out.2.1) h14.out.2)
                clear hD hb hL hy1 h2 h14
                clear wd
                have hy3i := (show IntKind.i64.wrap (1 + (y3 : Int)) = 1 + (y3 : Int) from IntWalk.i64_in _ (by have := hy3.out; omega))
                refine takeYes 12 18 ?v13 rfl rfl (by kernel_rfl) (by kernel_rfl) (by kernel_rfl) (fun _ _ _ _ h => h) (by kernel_rfl) ?y13 ?r13
                case y13 => intro w; go_simp; first | done | with_reducible rfl
                simp only [Act.put, List.setIfInBounds_toArray, List.set_cons_zero, List.set_cons_succ]
                clear hy3i
                revert q_h14; revert hy3; revert q_h2; revert q_hy1; revert q_hL; revert q_hb; revert we; revert b14; revert y3; revert s2; revert y2; revert y1
                exact key10
             intro y1 y2 s2 y3 wd hb hL hy1 h2 hy3
             refine wpAny_ready (rs := [4, 14]) (by kernel_rfl) (by simp) ?_
             refine AllReady.cons rfl (fun K hK => ?_) (AllReady.cons rfl (fun K hK => ?_) AllReady.nil)
             · skip
               obtain ⟨s1, hc, hlz⟩ := Lits.of_box (n := 9) hL.out.1 (by kernel_rfl) rfl y1 hy1.out
               have h1 := Lib.hid hlz
               clear hlz
               go_simp
               refine hK _ _ ?_
               clear hK K
               clear hc
               try simp only [Act.put, List.setIfInBounds_toArray, List.set_cons_zero, List.set_cons_succ]
               clear hy1
               refine takeYes 13 19 ?v14 rfl rfl (by kernel_rfl) (by kernel_rfl) (by kernel_rfl) (fun _ _ _ _ h => h) (by kernel_rfl) ?y14 ?r14
               case y14 => intro w; go_simp; first | done | with_reducible rfl
               simp only [Act.put, List.setIfInBounds_toArray, List.set_cons_zero, List.set_cons_succ]
               revert hy3; revert h2; revert h1; revert hL; revert hb; revert wd; revert y3; revert s2; revert y2; revert s1; revert y1
               exact key1
             · skip
               go_simp
               refine hK _ _ ?_
               clear hK K
               have hD : Drew wd g (wd.alloc (.cells #[.string ⟨#[]⟩, .string ⟨#[]⟩, .int .i64 0] 75)) := Drew.of_ext hb.out.1.1 ((Ext.refl _).alloc _)
               have h14 := Lib.hid (And.intro (Box.new wd #[.string ⟨#[]⟩, .string ⟨#[]⟩, .int .i64 0] 75) (show wd.heap.size ≠ g ∧ w.heap.size < wd.heap.size from ⟨Nat.ne_of_gt hb.out.1.1.lt, hb.out.2.lt⟩))
               generalize wd.alloc (.cells #[.string ⟨#[]⟩, .string ⟨#[]⟩, .int .i64 0] 75) = we at hD h14 ⊢
               generalize wd.heap.size = b14 at h14 ⊢
               try simp only [Act.put, List.setIfInBounds_toArray, List.set_cons_zero, List.set_cons_succ]
               have q_hb := Lib.hid (And.intro (hb.out.1.trans hD) (hb.out.2.drew hD hwg))
               have q_hL := Lib.hid (And.intro (hL.out.1.drew hD hL.out.2.1) hL.out.2)
               have q_hy1 := Lib.hid (hy1.out)
               have q_h2 := Lib.hid (h2.out)
               have q_hy3 := Lib.hid (hy3.out)
               clear hD hb hL hy1 h2 hy3
               clear wd
               revert h14; revert q_hy3; revert q_h2; revert q_hy1; revert q_hL; revert q_hb; revert we; revert b14; revert y3; revert s2; revert y2; revert y1
               exact key10
            intro y1 y2 s2 y3 b14 wd hb hL hy1 h2 hy3 h14
            refine wpAny_ready (rs := [4]) (by kernel_rfl) (by simp) ?_
            refine AllReady.cons rfl (fun K hK => ?_) AllReady.nil
            skip
            obtain ⟨s1, hc, hlz⟩ := Lits.of_box (n := 9) hL.out.1 (by kernel_rfl) rfl y1 hy1.out
            have h1 := Lib.hid hlz
            clear hlz
            go_simp
            refine hK _ _ ?_
            clear hK K
            clear hc
            try simp only [Act.put, List.setIfInBounds_toArray, List.set_cons_zero, List.set_cons_succ]
            clear hy1
            refine takeYes 13 19 ?v15 rfl rfl (by kernel_rfl) (by kernel_rfl) (by kernel_rfl) (fun _ _ _ _ h => h) (by kernel_rfl) ?y15 ?r15
            case y15 => intro w; go_simp; first | done | with_reducible rfl
            simp only [Act.put, List.setIfInBounds_toArray, List.set_cons_zero, List.set_cons_succ]
            revert h14; revert hy3; revert h2; revert h1; revert hL; revert hb; revert wd; revert b14; revert y3; revert s2; revert y2; revert s1; revert y1
            exact key0
           intro y1 s1 wd hb hL h1
           refine wpAny_ready (rs := [7, 14]) (by kernel_rfl) (by simp) ?_
           refine AllReady.cons rfl (fun K hK => ?_) (AllReady.cons rfl (fun K hK => ?_) AllReady.nil)
           · skip
             go_simp
             refine (l01Next_any _ _ _ hb.out.1.1 (by decide)).mono ?_
             rintro e we ⟨z2, rfl, hz0, hz1, hD0⟩
             obtain ⟨y2, rfl, hyn⟩ := pick_nat 9 rfl (by decide) hz0 hz1
             have hy2 := Lib.hid hyn
             have hD := hD0.drew
             clear hz0 hz1 hD0 hyn
             go_wp2_with fail
             try simp only [Act.put, List.setIfInBounds_toArray, List.set_cons_zero, List.set_cons_succ]
             have q_hb := Lib.hid (And.intro (hb.out.1.trans hD) (hb.out.2.drew hD hwg))
             have q_hL := Lib.hid (And.intro (hL.out.1.drew hD hL.out.2.1) hL.out.2)
             have q_h1 := Lib.hid (h1.out)
             clear hD hb hL h1
             clear wd
             have hy2i := (show (y2 : Int) < 9 from Int.ofNat_lt.2 hy2.out)
             refine takeYes 8 14 ?v16 rfl rfl (by kernel_rfl) (by kernel_rfl) (by kernel_rfl) (fun _ _ _ _ h => h) (by kernel_rfl) ?y16 ?r16
             case y16 => intro w; go_simp; first | done | with_reducible rfl
             simp only [Act.put, List.setIfInBounds_toArray, List.set_cons_zero, List.set_cons_succ]
             clear hy2i
             revert hy2; revert q_h1; revert q_hL; revert q_hb; revert we; revert y2; revert s1; revert y1
             exact key7
           · skip
             go_simp
             refine hK _ _ ?_
             clear hK K
             have hD : Drew wd g (wd.alloc (.cells #[.string ⟨#[]⟩, .string ⟨#[]⟩, .int .i64 0] 75)) := Drew.of_ext hb.out.1.1 ((Ext.refl _).alloc _)
             have h14 := Lib.hid (And.intro (Box.new wd #[.string ⟨#[]⟩, .string ⟨#[]⟩, .int .i64 0] 75) (show wd.heap.size ≠ g ∧ w.heap.size < wd.heap.size from ⟨Nat.ne_of_gt hb.out.1.1.lt, hb.out.2.lt⟩))
             generalize wd.alloc (.cells #[.string ⟨#[]⟩, .string ⟨#[]⟩, .int .i64 0] 75) = we at hD h14 ⊢
             generalize wd.heap.size = b14 at h14 ⊢
             try simp only [Act.put, List.setIfInBounds_toArray, List.set_cons_zero, List.set_cons_succ]
             have q_hb := Lib.hid (And.intro (hb.out.1.trans hD) (hb.out.2.drew hD hwg))
             have q_hL := Lib.hid (And.intro (hL.out.1.drew hD hL.out.2.1) hL.out.2)
             have q_h1 := Lib.hid (h1.out)
             clear hD hb hL h1
             clear wd
             revert h14; revert q_h1; revert q_hL; revert q_hb; revert we; revert b14; revert s1; revert y1
             exact key8
          intro y1 s1 b14 wd hb hL h1 h14
          refine wpAny_ready (rs := [7]) (by kernel_rfl) (by simp) ?_
          refine AllReady.cons rfl (fun K hK => ?_) AllReady.nil
          skip
          go_simp
          refine (l01Next_any _ _ _ hb.out.1.1 (by decide)).mono ?_
          rintro e we ⟨z2, rfl, hz0, hz1, hD0⟩
          obtain ⟨y2, rfl, hyn⟩ := pick_nat 9 rfl (by decide) hz0 hz1
          have hy2 := Lib.hid hyn
          have hD := hD0.drew
          clear hz0 hz1 hD0 hyn
          go_wp2_with fail
          try simp only [Act.put, List.setIfInBounds_toArray, List.set_cons_zero, List.set_cons_succ]
          have q_hb := Lib.hid (And.intro (hb.out.1.trans hD) (hb.out.2.drew hD hwg))
          have q_hL := Lib.hid (And.intro (hL.out.1.drew hD hL.out.2.1) hL.out.2)
          have q_h1 := Lib.hid (h1.out)
          have q_h14 := Lib.hid (And.intro (h14.out.1.drew hD h14.out.2.1) h14.out.2)
          clear hD hb hL h1 h14
          clear wd
          have hy2i := (show (y2 : Int) < 9 from Int.ofNat_lt.2 hy2.out)
          refine takeYes 8 14 ?v17 rfl rfl (by kernel_rfl) (by kernel_rfl) (by kernel_rfl) (fun _ _ _ _ h => h) (by kernel_rfl) ?y17 ?r17
          case y17 => intro w; go_simp; first | done | with_reducible rfl
          simp only [Act.put, List.setIfInBounds_toArray, List.set_cons_zero, List.set_cons_succ]
          clear hy2i
          revert q_h14; revert hy2; revert q_h1; revert q_hL; revert q_hb; revert we; revert b14; revert y2; revert s1; revert y1
          exact key6
         intro y1 s1 y2 wd hb hL h1 hy2
         refine wpAny_ready (rs := [9, 11, 14]) (by kernel_rfl) (by simp) ?_
         refine AllReady.cons rfl (fun K hK => ?_) (AllReady.cons rfl (fun K hK => ?_) (AllReady.cons rfl (fun K hK => ?_) AllReady.nil))
         · skip
           obtain ⟨s2, hc, hlz⟩ := Lits.of_box (n := 9) hL.out.1 (by kernel_rfl) rfl y2 hy2.out
           have h2 := Lib.hid hlz
           clear hlz
           go_simp
           refine hK _ _ ?_
           clear hK K
           clear hc
           try simp only [Act.put, List.setIfInBounds_toArray, List.set_cons_zero, List.set_cons_succ]
           clear hy2
           revert h2; revert h1; revert hL; revert hb; revert wd; revert s2; revert y2; revert s1; revert y1
           exact key3
         · skip
           go_simp
           refine (l01Next_any _ _ _ hb.out.1.1 (by decide)).mono ?_
           rintro e we ⟨z3, rfl, hz0, hz1, hD0⟩
           obtain ⟨y3, rfl, hyn⟩ := pick_nat 4 rfl (by decide) hz0 hz1
           have hy3 := Lib.hid hyn
           have hD := hD0.drew
           clear hz0 hz1 hD0 hyn
           go_wp2_with fail
           try simp only [Act.put, List.setIfInBounds_toArray, List.set_cons_zero, List.set_cons_succ]
           have q_hb := Lib.hid (And.intro (hb.out.1.trans hD) (hb.out.2.drew hD hwg))
           have q_hL := Lib.hid (And.intro (hL.out.1.drew hD hL.out.2.1) hL.out.2)
           have q_h1 := Lib.hid (h1.out)
           have q_hy2 := Lib.hid (hy2.out)
           clear hD hb hL h1 hy2
           clear wd
           have hy3i := (show IntKind.i64.wrap (1 + (y3 : Int)) = 1 + (y3 : Int) from IntWalk.i64_in _ (by have := hy3.out; omega))
           refine takeYes 12 18 ?v18 rfl rfl (by kernel_rfl) (by kernel_rfl) (by kernel_rfl) (fun _ _ _ _ h => h) (by kernel_rfl) ?y18 ?r18
           case y18 => intro w; go_simp; first | done | with_reducible rfl
           simp only [Act.put, List.setIfInBounds_toArray, List.set_cons_zero, List.set_cons_succ]
           clear hy3i
           revert hy3; revert q_hy2; revert q_h1; revert q_hL; revert q_hb; revert we; revert y3; revert y2; revert s1; revert y1
           exact key5
         · skip
           go_simp
           refine hK _ _ ?_
           clear hK K
           have hD : Drew wd g (wd.alloc (.cells #[.string ⟨#[]⟩, .string ⟨#[]⟩, .int .i64 0] 75)) := Drew.of_ext hb.out.1.1 ((Ext.refl _).alloc _)
           have h14 := Lib.hid (And.intro (Box.new wd #[.string ⟨#[]⟩, .string ⟨#[]⟩, .int .i64 0] 75) (show wd.heap.size ≠ g ∧ w.heap.size < wd.heap.size from ⟨Nat.ne_of_gt hb.out.1.1.lt, hb.out.2.lt⟩))
           generalize wd.alloc (.cells #[.string ⟨#[]⟩, .string ⟨#[]⟩, .int .i64 0] 75) = we at hD h14 ⊢
           generalize wd.heap.size = b14 at h14 ⊢
           try simp only [Act.put, List.setIfInBounds_toArray, List.set_cons_zero, List.set_cons_succ]
           have q_hb := Lib.hid (And.intro (hb.out.1.trans hD) (hb.out.2.drew hD hwg))
           have q_hL := Lib.hid (And.intro (hL.out.1.drew hD hL.out.2.1) hL.out.2)
           have q_h1 := Lib.hid (h1.out)
           have q_hy2 := Lib.hid (hy2.out)
           clear hD hb hL h1 hy2
           clear wd
           revert h14; revert q_hy2; revert q_h1; revert q_hL; revert q_hb; revert we; revert b14; revert y2; revert s1; revert y1
           exact key6
        intro y1 s1 y2 b14 wd hb hL h1 hy2 h14
        refine wpAny_ready (rs := [9, 11]) (by kernel_rfl) (by simp) ?_
        refine AllReady.cons rfl (fun K hK => ?_) (AllReady.cons rfl (fun K hK => ?_) AllReady.nil)
        · skip
          obtain ⟨s2, hc, hlz⟩ := Lits.of_box (n := 9) hL.out.1 (by kernel_rfl) rfl y2 hy2.out
          have h2 := Lib.hid hlz
          clear hlz
          go_simp
          refine hK _ _ ?_
          clear hK K
          clear hc
          try simp only [Act.put, List.setIfInBounds_toArray, List.set_cons_zero, List.set_cons_succ]
          clear hy2
          revert h14; revert h2; revert h1; revert hL; revert hb; revert wd; revert b14; revert s2; revert y2; revert s1; revert y1
          exact key2
        · skip
          go_simp
          refine (l01Next_any _ _ _ hb.out.1.1 (by decide)).mono ?_
          rintro e we ⟨z3, rfl, hz0, hz1, hD0⟩
          obtain ⟨y3, rfl, hyn⟩ := pick_nat 4 rfl (by decide) hz0 hz1
          have hy3 := Lib.hid hyn
          have hD := hD0.drew
          clear hz0 hz1 hD0 hyn
          go_wp2_with fail
          try simp only [Act.put, List.setIfInBounds_toArray, List.set_cons_zero, List.set_cons_succ]
          have q_hb := Lib.hid (And.intro (hb.out.1.trans hD) (hb.out.2.drew hD hwg))
          have q_hL := Lib.hid (And.intro (hL.out.1.drew hD hL.out.2.1) hL.out.2)
          have q_h1 := Lib.hid (h1.out)
          have q_hy2 := Lib.hid (hy2.out)
          have q_h14 := Lib.hid (And.intro (h14.out.1.drew hD h14.out.2.1) h14.out.2)
          clear hD hb hL h1 hy2 h14
          clear wd
          have hy3i := (show IntKind.i64.wrap (1 + (y3 : Int)) = 1 + (y3 : Int) from IntWalk.i64_in _ (by have := hy3.out; omega))
          refine takeYes 12 18 ?v19 rfl rfl (by kernel_rfl) (by kernel_rfl) (by kernel_rfl) (fun _ _ _ _ h => h) (by kernel_rfl) ?y19 ?r19
          case y19 => intro w; go_simp; first | done | with_reducible rfl
          simp only [Act.put, List.setIfInBounds_toArray, List.set_cons_zero, List.set_cons_succ]
          clear hy3i
          revert q_h14; revert hy3; revert q_hy2; revert q_h1; revert q_hL; revert q_hb; revert we; revert b14; revert y3; revert y2; revert s1; revert y1
          exact key4
       intro y1 s1 y2 y3 wd hb hL h1 hy2 hy3
       refine wpAny_ready (rs := [9, 14]) (by kernel_rfl) (by simp) ?_
       refine AllReady.cons rfl (fun K hK => ?_) (AllReady.cons rfl (fun K hK => ?_) AllReady.nil)
       · skip
         obtain ⟨s2, hc, hlz⟩ := Lits.of_box (n := 9) hL.out.1 (by kernel_rfl) rfl y2 hy2.out
         have h2 := Lib.hid hlz
         clear hlz
         go_simp
         refine hK _ _ ?_
         clear hK K
         clear hc
         try simp only [Act.put, List.setIfInBounds_toArray, List.set_cons_zero, List.set_cons_succ]
         clear hy2
         refine takeYes 13 19 ?v20 rfl rfl (by kernel_rfl) (by kernel_rfl) (by kernel_rfl) (fun _ _ _ _ h => h) (by kernel_rfl) ?y20 ?r20
         case y20 => intro w; go_simp; first | done | with_reducible rfl
         simp only [Act.put, List.setIfInBounds_toArray, List.set_cons_zero, List.set_cons_succ]
         revert hy3; revert h2; revert h1; revert hL; revert hb; revert wd; revert y3; revert s2; revert y2; revert s1; revert y1
         exact key1
       · skip
         go_simp
         refine hK _ _ ?_
         clear hK K
         have hD : Drew wd g (wd.alloc (.cells #[.string ⟨#[]⟩, .string ⟨#[]⟩, .int .i64 0] 75)) := Drew.of_ext hb.out.1.1 ((Ext.refl _).alloc _)
         have h14 := Lib.hid (And.intro (Box.new wd #[.string ⟨#[]⟩, .string ⟨#[]⟩, .int .i64 0] 75) (show wd.heap.size ≠ g ∧ w.heap.size < wd.heap.size from ⟨Nat.ne_of_gt hb.out.1.1.lt, hb.out.2.lt⟩))
         generalize wd.alloc (.cells #[.string ⟨#[]⟩, .string ⟨#[]⟩, .int .i64 0] 75) = we at hD h14 ⊢
         generalize wd.heap.size = b14 at h14 ⊢
         try simp only [Act.put, List.setIfInBounds_toArray, List.set_cons_zero, List.set_cons_succ]
         have q_hb := Lib.hid (And.intro (hb.out.1.trans hD) (hb.out.2.drew hD hwg))
         have q_hL := Lib.hid (And.intro (hL.out.1.drew hD hL.out.2.1) hL.out.2)
         have q_h1 := Lib.hid (h1.out)
         have q_hy2 := Lib.hid (hy2.out)
         have q_hy3 := Lib.hid (hy3.out)
         clear hD hb hL h1 hy2 hy3
         clear wd
         revert h14; revert q_hy3; revert q_hy2; revert q_h1; revert q_hL; revert q_hb; revert we; revert b14; revert y3; revert y2; revert s1; revert y1
         exact key4
      intro y1 s1 y2 y3 b14 wd hb hL h1 hy2 hy3 h14
      refine wpAny_ready (rs := [9]) (by kernel_rfl) (by simp) ?_
      refine AllReady.cons rfl (fun K hK => ?_) AllReady.nil
      skip
      obtain ⟨s2, hc, hlz⟩ := Lits.of_box (n := 9) hL.out.1 (by kernel_rfl) rfl y2 hy2.out
      have h2 := Lib.hid hlz
      clear hlz
      go_simp
      refine hK _ _ ?_
      clear hK K
      clear hc
      try simp only [Act.put, List.setIfInBounds_toArray, List.set_cons_zero, List.set_cons_succ]
      clear hy2
      refine takeYes 13 19 ?v21 rfl rfl (by kernel_rfl) (by kernel_rfl) (by kernel_rfl) (fun _ _ _ _ h => h) (by kernel_rfl) ?y21 ?r21
      case y21 => intro w; go_simp; first | done | with_reducible rfl
      simp only [Act.put, List.setIfInBounds_toArray, List.set_cons_zero, List.set_cons_succ]
      revert h14; revert hy3; revert h2; revert h1; revert hL; revert hb; revert wd; revert b14; revert y3; revert s2; revert y2; revert s1; revert y1
      exact key0
     intro y1 s1 y2 s2 wd hb hL h1 h2
     refine wpAny_ready (rs := [11, 14]) (by kernel_rfl) (by simp) ?_
     refine AllReady.cons rfl (fun K hK => ?_) (AllReady.cons rfl (fun K hK => ?_) AllReady.nil)
     · skip
       go_simp
       refine (l01Next_any _ _ _ hb.out.1.1 (by decide)).mono ?_
       rintro e we ⟨z3, rfl, hz0, hz1, hD0⟩
       obtain ⟨y3, rfl, hyn⟩ := pick_nat 4 rfl (by decide) hz0 hz1
       have hy3 := Lib.hid hyn
       have hD := hD0.drew
       clear hz0 hz1 hD0 hyn
       go_wp2_with fail
       try simp only [Act.put, List.setIfInBounds_toArray, List.set_cons_zero, List.set_cons_succ]
       have q_hb := Lib.hid (And.intro (hb.out.1.trans hD) (hb.out.2.drew hD hwg))
       have q_hL := Lib.hid (And.intro (hL.out.1.drew hD hL.out.2.1) hL.out.2)
       have q_h1 := Lib.hid (h1.out)
       have q_h2 := Lib.hid (h2.out)
       clear hD hb hL h1 h2
       clear wd
       have hy3i := (show IntKind.i64.wrap (1 + (y3 : Int)) = 1 + (y3 : Int) from IntWalk.i64_in _ (by have := hy3.out; omega))
       refine takeYes 12 18 ?v22 rfl rfl (by kernel_rfl) (by kernel_rfl) (by kernel_rfl) (fun _ _ _ _ h => h) (by kernel_rfl) ?y22 ?r22
       case y22 => intro w; go_simp; first | done | with_reducible rfl
       simp only [Act.put, List.setIfInBounds_toArray, List.set_cons_zero, List.set_cons_succ]
       refine takeYes 13 19 ?v23 rfl rfl (by kernel_rfl) (by kernel_rfl) (by kernel_rfl) (fun _ _ _ _ h => h) (by kernel_rfl) ?y23 ?r23
       case y23 => intro w; go_simp; first | done | with_reducible rfl
       simp only [Act.put, List.setIfInBounds_toArray, List.set_cons_zero, List.set_cons_succ]
       clear hy3i
       revert hy3; revert q_h2; revert q_h1; revert q_hL; revert q_hb; revert we; revert y3; revert s2; revert y2; revert s1; revert y1
       exact key1
     · skip
       go_simp
       refine hK _ _ ?_
       clear hK K
       have hD : Drew wd g (wd.alloc (.cells #[.string ⟨#[]⟩, .string ⟨#[]⟩, .int .i64 0] 75)) := Drew.of_ext hb.out.1.1 ((Ext.refl _).alloc _)
       have h14 := Lib.hid (And.intro (Box.new wd #[.string ⟨#[]⟩, .string ⟨#[]⟩, .int .i64 0] 75) (show wd.heap.size ≠ g ∧ w.heap.size < wd.heap.size from ⟨Nat.ne_of_gt hb.out.1.1.lt, hb.out.2.lt⟩))
       generalize wd.alloc (.cells #[.string ⟨#[]⟩, .string ⟨#[]⟩, .int .i64 0] 75) = we at hD h14 ⊢
       generalize wd.heap.size = b14 at h14 ⊢
       try simp only [Act.put, List.setIfInBounds_toArray, List.set_cons_zero, List.set_cons_succ]
       have q_hb := Lib.hid (And.intro (hb.out.1.trans hD) (hb.out.2.drew hD hwg))
       have q_hL := Lib.hid (And.intro (hL.out.1.drew hD hL.out.2.1) hL.out.2)
       have q_h1 := Lib.hid (h1.out)
       have q_h2 := Lib.hid (h2.out)
       clear hD hb hL h1 h2
       clear wd
       revert h14; revert q_h2; revert q_h1; revert q_hL; revert q_hb; revert we; revert b14; revert s2; revert y2; revert s1; revert y1
       exact key2
    intro y1 s1 y2 s2 b14 wd hb hL h1 h2 h14
    refine wpAny_ready (rs := [11]) (by kernel_rfl) (by simp) ?_
    refine AllReady.cons rfl (fun K hK => ?_) AllReady.nil
    skip
    go_simp
    refine (l01Next_any _ _ _ hb.out.1.1 (by decide)).mono ?_
    rintro e we ⟨z3, rfl, hz0, hz1, hD0⟩
    obtain ⟨y3, rfl, hyn⟩ := pick_nat 4 rfl (by decide) hz0 hz1
    have hy3 := Lib.hid hyn
    have hD := hD0.drew
    clear hz0 hz1 hD0 hyn
    go_wp2_with fail
    try simp only [Act.put, List.setIfInBounds_toArray, List.set_cons_zero, List.set_cons_succ]
    have q_hb := Lib.hid (And.intro (hb.out.1.trans hD) (hb.out.2.drew hD hwg))
    have q_hL := Lib.hid (And.intro (hL.out.1.drew hD hL.out.2.1) hL.out.2)
    have q_h1 := Lib.hid (h1.out)
    have q_h2 := Lib.hid (h2.out)
    have q_h14 := Lib.hid (And.intro (h14.out.1.drew hD h14.out.2.1) h14.out.2)
    clear hD hb hL h1 h2 h14
    clear wd
    have hy3i := (show IntKind.i64.wrap (1 + (y3 : Int)) = 1 + (y3 : Int) from IntWalk.i64_in _ (by have := hy3.out; omega))
    refine takeYes 12 18 ?v24 rfl rfl (by kernel_rfl) (by kernel_rfl) (by kernel_rfl) (fun _ _ _ _ h => h) (by kernel_rfl) ?y24 ?r24
    case y24 => intro w; go_simp; first | done | with_reducible rfl
    simp only [Act.put, List.setIfInBounds_toArray, List.set_cons_zero, List.set_cons_succ]
    refine takeYes 13 19 ?v25 rfl rfl (by kernel_rfl) (by kernel_rfl) (by kernel_rfl) (fun _ _ _ _ h => h) (by kernel_rfl) ?y25 ?r25
    case y25 => intro w; go_simp; first | done | with_reducible rfl
    simp only [Act.put, List.setIfInBounds_toArray, List.set_cons_zero, List.set_cons_succ]
    clear hy3i
    revert q_h14; revert hy3; revert q_h2; revert q_h1; revert q_hL; revert q_hb; revert we; revert b14; revert y3; revert s2; revert y2; revert s1; revert y1
    exact key0
   intro y1 s1 y2 s2 y3 wd hb hL h1 h2 hy3
   refine wpAny_ready (rs := [14]) (by kernel_rfl) (by simp) ?_
   refine AllReady.cons rfl (fun K hK => ?_) AllReady.nil
   skip
   go_simp
   refine hK _ _ ?_
   clear hK K
   have hD : Drew wd g (wd.alloc (.cells #[.string ⟨#[]⟩, .string ⟨#[]⟩, .int .i64 0] 75)) := Drew.of_ext hb.out.1.1 ((Ext.refl _).alloc _)
   have h14 := Lib.hid (And.intro (Box.new wd #[.string ⟨#[]⟩, .string ⟨#[]⟩, .int .i64 0] 75) (show wd.heap.size ≠ g ∧ w.heap.size < wd.heap.size from ⟨Nat.ne_of_gt hb.out.1.1.lt, hb.out.2.lt⟩))
   generalize wd.alloc (.cells #[.string ⟨#[]⟩, .string ⟨#[]⟩, .int .i64 0] 75) = we at hD h14 ⊢
   generalize wd.heap.size = b14 at h14 ⊢
   try simp only [Act.put, List.setIfInBounds_toArray, List.set_cons_zero, List.set_cons_succ]
   have q_hb := Lib.hid (And.intro (hb.out.1.trans hD) (hb.out.2.drew hD hwg))
   have q_hL := Lib.hid (And.intro (hL.out.1.drew hD hL.out.2.1) hL.out.2)
   have q_h1 := Lib.hid (h1.out)
   have q_h2 := Lib.hid (h2.out)
   have q_hy3 := Lib.hid (hy3.out)
   clear hD hb hL h1 h2 hy3
   clear wd
   revert h14; revert q_hy3; revert q_h2; revert q_h1; revert q_hL; revert q_hb; revert we; revert b14; revert y3; revert s2; revert y2; revert s1; revert y1
   exact key0
  intro y1 s1 y2 s2 y3 b14 wd hb hL h1 h2 hy3 h14
  refine wpAny_ready (rs := [15]) (by kernel_rfl) (by simp) ?_
  refine AllReady.cons rfl (fun K hK => ?_) AllReady.nil
  skip
  have bx0 := h14.out.1.cell 0
  have bx1 := h14.out.1.cell 1
  have bx2 := h14.out.1.cell 2
  have f0 := h14.out.1.frozen 0
  have f1 := h14.out.1.frozen 1
  have f2 := h14.out.1.frozen 2
  go_simp
  refine hK _ _ ?_
  clear hK K
  try simp only [Act.put, List.setIfInBounds_toArray, List.set_cons_zero, List.set_cons_succ]
  refine wpAny_done (by kernel_rfl) ?_ _
  have hgb : g < b14 := Nat.lt_trans hg h14.out.2.2
  have hwb : (w.alloc (.cells #[.string ⟨#[]⟩, .string ⟨#[]⟩, .int .i64 0] 75)).heap.size ≤ b14 := by have := h14.out.2.2; simp; omega
  have hE := Lib.hid (show Drew (w.alloc (.cells #[.string ⟨#[]⟩, .string ⟨#[]⟩, .int .i64 0] 75)) g (((wd.setCell ⟨b14, 0, none⟩ (.string s1)).setCell ⟨b14, 1, none⟩ (.string s2)).setCell ⟨b14, 2, none⟩ (.int .i64 (1 + (y3 : Int)))) ∧ Box (((wd.setCell ⟨b14, 0, none⟩ (.string s1)).setCell ⟨b14, 1, none⟩ (.string s2)).setCell ⟨b14, 2, none⟩ (.int .i64 (1 + (y3 : Int)))) w.heap.size #[.string ⟨#[]⟩, .string ⟨#[]⟩, .int .i64 0] 75 ∧ Box (((wd.setCell ⟨b14, 0, none⟩ (.string s1)).setCell ⟨b14, 1, none⟩ (.string s2)).setCell ⟨b14, 2, none⟩ (.int .i64 (1 + (y3 : Int)))) b14 #[.string s1, .string s2, .int .i64 (1 + (y3 : Int))] 75 from ⟨(((hb.out.1).setCell hwb hgb 0 _).setCell hwb hgb 1 _).setCell hwb hgb 2 _, Box.far (Box.far (Box.far (hb.out.2) (Nat.ne_of_lt h14.out.2.2) 0 _) (Nat.ne_of_lt h14.out.2.2) 1 _) (Nat.ne_of_lt h14.out.2.2) 2 _, (((h14.out.1).set 0 _).set 1 _).set 2 _⟩)
  have hwb3 := h14.out.2.2
  have hs1 := h1.out
  have hs2 := h2.out
  generalize ((wd.setCell ⟨b14, 0, none⟩ (.string s1)).setCell ⟨b14, 1, none⟩ (.string s2)).setCell ⟨b14, 2, none⟩ (.int .i64 (1 + (y3 : Int))) = wx at hE ⊢
  clear hb hL h14 h1 h2 bx0 bx1 bx2 f0 f1 f2
  clear wd
  have hne : ¬ w.heap.size = b14 := by omega
  have hne2 : ¬ b14 = w.heap.size := by omega
  have hbg : b14 ≠ g := by omega
  go_wp2_with fail
  refine (l01Next_any _ _ _ hE.out.1.1 (by decide)).mono ?_
  rintro e w2 ⟨y, rfl, hy0, hy1, hd⟩
  have h2 := Lib.hid (And.intro (hE.out.1.trans hd.drew) (And.intro (hE.out.2.1.drew hd.drew hwg) (hE.out.2.2.drew hd.drew hbg)))
  clear hd hE
  have hg2 := h2.out.1.1.lt
  by_cases y0 : y = 0
  · subst y0
    go_wp2_with fail
    refine (l01Pick_any _ _ _ _ _ _ (h2.out.1.1.ext ((Ext.refl _).alloc _)) (RdI.lits _ [0, 9, 10] _ rfl (by simp)) (by simp) (by rintro ad e; cases e; exact Nat.ne_of_gt hg2)).mono ?_
    rintro e w3 ⟨u, rfl, hu, hd⟩
    have hd2 := Drew.pre ((Ext.refl w2).alloc _) hd.drew
    have h3 := Lib.hid (And.intro (h2.out.1.trans hd2) (And.intro (h2.out.2.1.drew hd2 hwg) (h2.out.2.2.drew hd2 hbg)))
    clear hd hd2 hu
    have a0 := h3.out.2.1.cell 0
    have a1 := h3.out.2.1.cell 1
    have a2 := h3.out.2.1.cell 2
    have f0 := h3.out.2.1.frozen 0
    have f1 := h3.out.2.1.frozen 1
    have f2 := h3.out.2.1.frozen 2
    have c0 := h3.out.2.2.cell 0
    have c1 := h3.out.2.2.cell 1
    have c2 := h3.out.2.2.cell 2
    have d0 := h3.out.2.2.frozen 0
    have d1 := h3.out.2.2.frozen 1
    have d2 := h3.out.2.2.frozen 2
    go_wp2
    exact bodyPost_ret (v := .agg #[.string s1, .string s2, .int .i64 (u)]) (by simp [results, Tryz.results97, go_sem, a0, a1, a2]) rfl ⟨⟨s1, s2, u⟩, rfl, ⟨by simp only; omega, by simp only; omega⟩, (((Drew.pre ((Ext.refl _).alloc _) ((h3.out.1).setCell hwb hgb 2 _)).setCell (Nat.le_refl _) hg 0 _).setCell (Nat.le_refl _) hg 1 _).setCell (Nat.le_refl _) hg 2 _⟩
  · skip
    have a0 := h2.out.2.1.cell 0
    have a1 := h2.out.2.1.cell 1
    have a2 := h2.out.2.1.cell 2
    have f0 := h2.out.2.1.frozen 0
    have f1 := h2.out.2.1.frozen 1
    have f2 := h2.out.2.1.frozen 2
    have c0 := h2.out.2.2.cell 0
    have c1 := h2.out.2.2.cell 1
    have c2 := h2.out.2.2.cell 2
    have d0 := h2.out.2.2.frozen 0
    have d1 := h2.out.2.2.frozen 1
    have d2 := h2.out.2.2.frozen 2
    go_wp2
    exact bodyPost_ret (v := .agg #[.string s1, .string s2, .int .i64 (1 + (y3 : Int))]) (by simp [results, Tryz.results97, go_sem, a0, a1, a2]) rfl ⟨⟨s1, s2, 1 + (y3 : Int)⟩, rfl, ⟨by simp only; omega, by simp only; omega⟩, (((Drew.pre ((Ext.refl _).alloc _) (h2.out.1)).setCell (Nat.le_refl _) hg 0 _).setCell (Nat.le_refl _) hg 1 _).setCell (Nat.le_refl _) hg 2 _⟩

def DrewLE (w : World) (g : Nat) (e : Ending) (w' : World) : Prop := ∃ (a : Option Addr) (c : Nat) (xs : List EndingV), e = .returned (.slice a xs.length c) ∧ xs.length ≤ 24 ∧ shortE xs ∧ OwnG layEnding 75 w' w.heap.size a xs.length c xs ∧ Drew w g w'
theorem draw_growE {w w2 w3 : World} {g B e sz m n c : Nat} {a : Option Addr} {xs : List Value} (ho : w2.ownsRow B e sz (.slice a n c) m xs) (hs : Src w2 g) (hg : g < w.heap.size) (hB : w.heap.size ≤ B)
    (h2 : w.grownBy w2 (some g)) (h3 : w2.grownBy w3 (Value.slice a n c).ownBlock) : Drew w g w3 := by
  refine ⟨hs.grown h3 (fun k e => by have := (ho.lt k e).1; omega), h3.os.trans h2.os, h3.tape.trans h2.tape, h3.output.trans h2.output, Nat.le_trans h2.size h3.size, fun j hj hr => ?_⟩
  rw [h3.block j (Nat.lt_of_lt_of_le hj h2.size) (by intro e; have := (ho.lt j e.symm).1; omega)]
  exact h2.block j hj hr
def letE (k : Nat) : ByteArray := ⟨#[121]⟩ ++ (⟨#[97, 98, 99, 100, 101, 102, 103, 104, 105, 106, 107, 108, 109, 110, 111, 112, 113, 114]⟩ : ByteArray).extract k (k + 1)
theorem letE_size (k : Nat) : (letE k).size ≤ 20 := by
  rw [letE, ByteArray.size_append, ByteArray.size_extract]
  have : (⟨#[121]⟩ : ByteArray).size = 1 := rfl
  omega

set_option maxRecDepth 100000 in
set_option maxHeartbeats 4000000 in
theorem l08Table_any (g : Nat) (w : World) (hs : Src w g) :
    Calls Tryz.prog 81 #[.pointer (some ⟨g, 0, none⟩)] w (DrewLE w g) := by
  have hg := hs.lt
  have HS := Lib.hid hs
  clear hs
  go_enter Tryz.func81, Tryz.ntmps81
  go_wp2_with fail
  refine (l01Next_any _ _ _ (HS.out.ext ((Ext.refl _).alloc _)) (by omega)).mono ?_
  rintro e w1 ⟨x, rfl, hx0, hx1, hd⟩
  have HL := Lib.hid (And.intro (Drew.pre ((Ext.refl _).alloc _) hd.drew) ((OwnG.lit layEnding 75 w (Nat.le_refl _) [] #[] rfl (by simp)).drawn hd.grown hg))
  clear hd
  go_wp2
  go_loopw [3, 4, 5] (fun v i _ wr => ∃ (l : List EndingV) (a1 : Option Addr) (c1 k : Nat), v = .slice a1 l.length c1 ∧ i = .int .i64 k ∧ l.length + k ≤ 6 ∧ shortE l ∧ OwnG layEnding 75 wr w.heap.size a1 l.length c1 l ∧ Drew w g wr) (fun _ i _ _ => (intOf i).toNat)
  case atStart =>
    obtain ⟨k, rfl⟩ := Int.eq_ofNat_of_zero_le hx0
    exact ⟨[], _, _, k, rfl, rfl, by simp; omega, (fun _ h => by cases h), HL.out.2, HL.out.1⟩
  case round =>
    obtain ⟨l, a1, c1, k, rfl, rfl, hlk, hls, ho, hD⟩ := hrel
    have HB := Lib.hid hls
    clear hls
    by_cases hk : 0 < k
    · have hgr := hD.1.lt
      have hwr := hD.size
      have HD := Lib.hid (And.intro ho hD)
      clear ho hD
      go_wp2_with (first | (at_builtin; refine wpList_appG layEnding rfl _ _ 45 75 rfl Tryz.underlying45 (.agg #[.string ⟨#[]⟩, .string ⟨#[]⟩, .int .i64 0]) 40 Tryz.info_Ending rfl (by decide) wr.heap.size _ 0 _ [] rfl (OwnG.lit layEnding 75 wr (Nat.le_refl _) [] #[] rfl (by simp)) _ _ _ l rfl (HD.out.1.ext ((Ext.refl _).alloc _)).rd (by omega) (by simp) ?_; intro a2 c2 w2 hown hgrow; simp only [Nat.zero_add, List.nil_append] at hown ⊢; have H2 := Lib.hid (And.intro hown (draw_growE (w := wr) (OwnG.lit layEnding 75 wr (Nat.le_refl _) [] #[] rfl (by simp)).1 (HD.out.2.1.ext ((Ext.refl _).alloc _)) hgr (Nat.le_refl _) (grown_ext ((Ext.refl _).alloc _) _) hgrow)); clear hown hgrow))
      refine (l08DrawEnding_any _ _ H2.out.2.1).mono ?_
      rintro e w3 ⟨x, rfl, hx, hd⟩
      have H3 := Lib.hid (And.intro (H2.out.1.drawn hd.2 hgr) (H2.out.2.trans hd))
      obtain ⟨p0, p1, p2⟩ := x
      rw [valEnding]
      simp only at hx ⊢
      have hp : p0.size ≤ 20 ∧ p1.size ≤ 20 := by omega
      have HX := Lib.hid (shortE.app HB.out (x := ⟨p0, p1, p2⟩) hp)
      clear hd hx H2
      go_wp2_with (first | (at_builtin; refine wpList_appG layEnding rfl _ _ 45 75 rfl Tryz.underlying45 (.agg #[.string ⟨#[]⟩, .string ⟨#[]⟩, .int .i64 0]) 40 Tryz.info_Ending rfl (by decide) wr.heap.size _ l.length _ l rfl (H3.out.1.alloc _) _ 1 _ [⟨p0, p1, p2⟩] rfl (RdG.new1 layEnding _ _ _ rfl _) (by omega) (by have := H3.out.2.size; simp; omega) ?_; intro a4 c4 w4 hown hgrow; have HO := Lib.hid (And.intro hown (draw_grow H3.out.1.1 H3.out.2.1 hgr (Nat.le_refl _) H3.out.2.2 hgrow)); clear hown hgrow))
      refine (specIsEndingTable_any _ _ _ _ _ ⟨HO.out.1.rd, HX.out.ok⟩).mono ?_
      rintro e w5 ⟨rfl, e5⟩
      have H5 := Lib.hid (And.intro ((HO.out.1.ext e5).mono hwr) (And.intro ((HD.out.2.trans HO.out.2).ext e5) ((HD.out.1.drawn HO.out.2.2 hg).ext e5)))
      clear e5 H3 HO HD
      cases hT : tableE (l ++ [(⟨p0, p1, p2⟩ : EndingV)])
      · go_wp2
        go_roundw
        case rel => exact ⟨l, a1, c1, k - 1, rfl, by rw [show ((k : Int) - 1) = ((k - 1 : Nat) : Int) from by omega], by omega, HB.out, H5.out.2.2, H5.out.2.1⟩
        case measure => simp [intOf]; omega
      · go_wp2
        go_roundw
        case rel => exact ⟨l ++ [⟨p0, p1, p2⟩], a4, c4, k - 1, by simp, by rw [show ((k : Int) - 1) = ((k - 1 : Nat) : Int) from by omega], by simp; omega, HX.out, by simpa using H5.out.1, H5.out.2.1⟩
        case measure => simp [intOf]; omega
    · have HO := Lib.hid (And.intro ho hD)
      clear ho hD
      go_wp2_with fail
      refine (l01Next_any _ _ _ HO.out.2.1 (by omega)).mono ?_
      rintro e w2 ⟨y, rfl, hy0, hy1, hd⟩
      have H2 := Lib.hid (And.intro (HO.out.1.drawn hd.grown hg) (HO.out.2.trans hd.drew))
      clear hd HO
      by_cases y0 : y = 0
      · subst y0
        go_wp2_with fail
        refine (l08DrawEnding_any _ _ H2.out.2.1).mono ?_
        rintro e w3 ⟨x, rfl, hx, hd⟩
        have H3 := Lib.hid (And.intro (H2.out.1.drawn hd.2 hg) (H2.out.2.trans hd))
        obtain ⟨p0, p1, p2⟩ := x
        rw [valEnding]
        simp only at hx ⊢
        have hp : p0.size ≤ 20 ∧ p1.size ≤ 20 := by omega
        have HX := Lib.hid (shortE.app HB.out (x := ⟨p0, p1, p2⟩) hp)
        clear hd hx
        go_wp2_with (first | (at_builtin; refine wpList_appG layEnding rfl _ _ 45 75 rfl Tryz.underlying45 (.agg #[.string ⟨#[]⟩, .string ⟨#[]⟩, .int .i64 0]) 40 Tryz.info_Ending rfl (by decide) w.heap.size _ l.length _ l rfl (H3.out.1.alloc _) _ 1 _ [⟨p0, p1, p2⟩] rfl (RdG.new1 layEnding _ _ _ rfl _) (by omega) (by have := H3.out.2.size; simp; omega) ?_; intro a4 c4 w4 hown hgrow; have HE := Lib.hid (And.intro hown (draw_grow H3.out.1.1 H3.out.2.1 hg (Nat.le_refl _) H3.out.2.2 hgrow)); clear hown hgrow))
        go_ret
        exact ⟨a4, c4, l ++ [⟨p0, p1, p2⟩], (by show Ending.returned (.slice a4 (l.length + 1) c4) = _; simp), by simp; omega, HX.out, by simpa using HE.out.1, HE.out.2⟩
      by_cases y1 : y = 1
      · subst y1
        go_wp2
        go_loopw [3, 6] (fun v i wr => ∃ (l : List EndingV) (a1 : Option Addr) (c1 k : Nat), v = .slice a1 l.length c1 ∧ i = .int .i64 k ∧ k ≤ 18 ∧ l.length ≤ 6 + k ∧ shortE l ∧ OwnG layEnding 75 wr w.heap.size a1 l.length c1 l ∧ Drew w g wr) (fun _ i _ => 18 - (intOf i).toNat)
        case atStart => exact ⟨l, a1, c1, 0, rfl, rfl, by decide, by omega, HB.out, H2.out.1, H2.out.2⟩
        case round =>
          obtain ⟨l, a1, c1, k, rfl, rfl, hk18, hl, hls, ho, hD⟩ := hrel
          have HO := Lib.hid (And.intro hls (And.intro ho hD))
          clear hls ho hD H2 HB
          go_wp2_with fail
          refine (l01Next_any _ _ _ HO.out.2.2.1 (by omega)).mono ?_
          rintro e w3 ⟨z, rfl, hz0, hz1, hd⟩
          have H3 := Lib.hid (And.intro (HO.out.2.1.drawn hd.grown hg) (HO.out.2.2.trans hd.drew))
          clear hd
          by_cases hlz : (l.length : Int) < 16 + z
          · by_cases hkl : (k : Int) < 18
            · have HX := Lib.hid (shortE.app HO.out.1 (x := ⟨⟨#[120]⟩, letE k, 1⟩) ⟨show (⟨#[120]⟩ : ByteArray).size ≤ 20 by decide, letE_size k⟩)
              go_wp2_with (first | (at_builtin; refine wpList_appG layEnding rfl _ _ 45 75 rfl Tryz.underlying45 (.agg #[.string ⟨#[]⟩, .string ⟨#[]⟩, .int .i64 0]) 40 Tryz.info_Ending rfl (by decide) w.heap.size _ l.length _ l rfl (H3.out.1.alloc _) _ 1 _ [⟨⟨#[120]⟩, letE k, 1⟩] rfl (RdG.new1 layEnding _ _ _ rfl _) (by omega) (by have := H3.out.2.size; simp; omega) ?_; intro a2 c2 w5 hown hgrow; have HE := Lib.hid (And.intro hown (draw_grow H3.out.1.1 H3.out.2.1 hg (Nat.le_refl _) H3.out.2.2 hgrow)); clear hown hgrow))
              go_roundw
              case rel => exact ⟨l ++ [⟨⟨#[120]⟩, letE k, 1⟩], a2, c2, k + 1, by simp, by go_num, by omega, by simp; omega, HX.out, by simpa using HE.out.1, HE.out.2⟩
              case measure => simp [intOf]; omega
            · go_wp2
              go_ret
              exact ⟨_, _, l, rfl, by omega, HO.out.1, H3.out.1, H3.out.2⟩
          · go_wp2
            go_ret
            exact ⟨_, _, l, rfl, by omega, HO.out.1, H3.out.1, H3.out.2⟩
      · go_wp2
        go_ret
        exact ⟨_, _, l, rfl, by omega, HB.out, H2.out.1, H2.out.2⟩

set_option maxRecDepth 100000 in
set_option maxHeartbeats 1000000 in
theorem drawFormsOf_any (a : Option Addr) (n c : Nat) (bs : List Int) (w : World) (hr : RdBy w a n bs) :
    Calls Tryz.prog 57 #[.slice a n c] w fun e w' => ∃ a1 c1 xs s, e = .returned (.tuple #[.slice a1 xs.length c1, .string s]) ∧ xs.length ≤ 24 ∧ OwnEnding w' w.heap.size a1 xs.length c1 xs ∧ s.size ≤ 51 ∧ Ext w w' := by
  go_enter Tryz.func57, Tryz.ntmps57
  go_wp2_with fail
  refine (l01From_any _ _ _ _ _ hr).mono ?_
  rintro e w1 ⟨g, rfl, hg, hs, x1⟩
  have hg1 := hs.lt
  go_wp2_with fail
  refine (l08Table_any _ _ hs).mono ?_
  rintro e w2 ⟨a2, c2, xs, rfl, hl, hsh, o2, hd⟩
  have H2 := Lib.hid (And.intro o2 hd)
  clear o2 hd hs
  go_wp2_with fail
  refine (l01DrawWord_any _ _ H2.out.2.1).mono ?_
  rintro e w3 ⟨s, rfl, hsz, hd⟩
  have H3 := Lib.hid (And.intro (H2.out.1.drawn hd.2 hg1) (H2.out.2.trans hd))
  clear hd
  go_wp2
  go_ret2
  exact ⟨_, _, xs, s, rfl, hl, ⟨H3.out.1.mono x1.size, hsh.ok⟩, hsz, draw_ext x1 H3.out.2 hg⟩

set_option maxRecDepth 100000 in
set_option maxHeartbeats 400000 in
theorem drawBasesOf_any (a : Option Addr) (n c : Nat) (bs : List Int) (w : World) (hr : RdBy w a n bs) :
    Calls Tryz.prog 25 #[.slice a n c] w fun e w' => ∃ a1 c1 xs s, e = .returned (.tuple #[.slice a1 xs.length c1, .string s]) ∧ xs.length ≤ 24 ∧ OwnEnding w' w.heap.size a1 xs.length c1 xs ∧ s.size ≤ 51 ∧ Ext w w' := by
  go_enter Tryz.func25, Tryz.ntmps25
  go_wp2_with fail
  refine (drawFormsOf_any _ _ _ _ _ hr).mono ?_
  rintro e w1 ⟨a1, c1, xs, s, rfl, h1, h2, h3, h4⟩
  go_wp2
  go_ret2
  exact ⟨a1, c1, xs, s, rfl, h1, h2, h3, h4⟩

set_option maxRecDepth 100000 in
set_option maxHeartbeats 2000000 in
theorem drawCasesOf_any (a : Option Addr) (n c : Nat) (bs : List Int) (w : World) (hr : RdBy w a n bs) :
    Calls Tryz.prog 30 #[.slice a n c] w fun e w' => ∃ a1 c1 xs s t, e = .returned (.tuple #[.slice a1 xs.length c1, .string s, .string t]) ∧ xs.length ≤ 24 ∧ OwnEnding w' w.heap.size a1 xs.length c1 xs ∧ s.size ≤ 51 ∧ t.size ≤ 1073741824 ∧ Ext w w' := by
  go_enter Tryz.func30, Tryz.ntmps30
  go_wp2_with fail
  refine (l01From_any _ _ _ _ _ hr).mono ?_
  rintro e w1 ⟨g, rfl, hg, hs, x1⟩
  have hg1 := hs.lt
  have hsz1 := x1.size
  have H1 := Lib.hid (And.intro hs (And.intro x1 (hr.ext x1)))
  clear hs x1
  go_wp2_with fail
  refine (drawFormsOf_any _ _ _ _ _ H1.out.2.2).mono ?_
  rintro e w2 ⟨a2, c2, xs, s, rfl, hl, o2, hsz, x2⟩
  have hg2 := Nat.lt_of_lt_of_le hg1 x2.size
  have H2 := Lib.hid (And.intro (H1.out.1.ext x2) (And.intro o2 (H1.out.2.1.trans x2)))
  clear o2 x2
  go_wp2_with fail
  refine (specFormsOf_any _ _ _ _ _ _ H2.out.2.1.rd (by omega) (by omega)).mono ?_
  rintro e w4 ⟨v4, rfl, a4, n4, c4, rfl, hn4, o4, x4⟩
  have hres : ∀ (w' : World) (t : ByteArray), t.size ≤ 1073741824 → Drew w4 g w' → (∃ a1 c1 xs' s' t', Ending.returned (.tuple #[.slice a2 xs.length c2, .string s, .string t]) = .returned (.tuple #[.slice a1 xs'.length c1, .string s', .string t']) ∧ xs'.length ≤ 24 ∧ OwnEnding w' w.heap.size a1 xs'.length c1 xs' ∧ s'.size ≤ 51 ∧ t'.size ≤ 1073741824 ∧ Ext w w') := fun w' t ht hd =>
    ⟨_, _, xs, s, t, rfl, hl, ⟨((H2.out.2.1.1.ext x4).drawn hd.2 hg1).mono hsz1, H2.out.2.1.2⟩, hsz, ht, draw_ext (H2.out.2.2.trans x4) hd hg⟩
  have HR := Lib.hid hres
  have H4 := Lib.hid (And.intro (H2.out.1.ext x4) o4)
  clear hres o4 x4
  cases hc : (tabC xs s == 0)
  · go_wp2_with fail
    refine (l01DrawWord_any _ _ H4.out.1).mono ?_
    rintro e w5 ⟨t, rfl, ht, hd⟩
    have H5 := Lib.hid hd
    clear hd
    go_wp2
    go_ret3
    exact HR.out _ _ (by omega) H5.out
  by_cases hn0 : 0 < n4
  · have hn0i : (0 : Int) < n4 := by omega
    go_wp2_with fail
    refine (l01Next_any _ _ _ H4.out.1 (by omega)).mono ?_
    rintro e w5 ⟨y, rfl, hy0, hy1, hd⟩
    have H5 := Lib.hid hd.drew
    obtain ⟨b, o, rfl, hbl4, hA4⟩ := H4.out.2.rd.at hn0
    have hln4 := H4.out.2.rd.len
    have HZ := Lib.hid (fun k (hk : k < n4) => H4.out.2.2 _ (nthS_mem (by rw [hln4]; exact hk)))
    have hbB := (H4.out.2.1.1.lt b rfl).1
    have hbg : b ≠ g := by omega
    have HA := Lib.hid (fun k (hk : k < n4) => (hd.drew.cell (p := ⟨b, o + k, none⟩) hbl4 hbg).trans (hA4 k hk))
    have hbl : b < w5.heap.size := Nat.lt_of_lt_of_le hbl4 hd.drew.size
    clear hd hA4
    by_cases hy : 0 < y
    · go_wp2
      refine wp_region_any (by kernel_rfl) ?_
      try (change wpAny _ _ _ _ _ _ _ (World.drew _))
      refine takeYes 0 35 ?v26 rfl rfl (by kernel_rfl) (by kernel_rfl) (by kernel_rfl) (fun _ _ _ _ h => h) (by kernel_rfl) ?y26 ?r26
      case y26 => intro w; go_simp; first | done | with_reducible rfl
      simp only [Act.put, List.setIfInBounds_toArray, List.set_cons_zero, List.set_cons_succ]
      refine takeYes 1 36 ?v27 rfl rfl (by kernel_rfl) (by kernel_rfl) (by kernel_rfl) (fun _ _ _ _ h => h) (by kernel_rfl) ?y27 ?r27
      case y27 => intro w; go_simp; first | done | with_reducible rfl
      simp only [Act.put, List.setIfInBounds_toArray, List.set_cons_zero, List.set_cons_succ]
      refine takeYes 2 37 ?v28 rfl rfl (by kernel_rfl) (by kernel_rfl) (by kernel_rfl) (fun _ _ _ _ h => h) (by kernel_rfl) ?y28 ?r28
      case y28 => intro w; go_simp; first | done | with_reducible rfl
      simp only [Act.put, List.setIfInBounds_toArray, List.set_cons_zero, List.set_cons_succ]
      refine takeYes 3 38 ?v29 rfl rfl (by kernel_rfl) (by kernel_rfl) (by kernel_rfl) (fun _ _ _ _ h => h) (by kernel_rfl) ?y29 ?r29
      case y29 => intro w; go_simp; first | done | with_reducible rfl
      simp only [Act.put, List.setIfInBounds_toArray, List.set_cons_zero, List.set_cons_succ]
      refine takeYes 4 39 ?v30 rfl rfl (by kernel_rfl) (by kernel_rfl) (by kernel_rfl) (fun _ _ _ _ h => h) (by kernel_rfl) ?y30 ?r30
      case y30 => intro w; go_simp; first | done | with_reducible rfl
      simp only [Act.put, List.setIfInBounds_toArray, List.set_cons_zero, List.set_cons_succ]
      refine takeYes 5 40 ?v31 rfl rfl (by kernel_rfl) (by kernel_rfl) (by kernel_rfl) (fun _ _ _ _ h => h) (by kernel_rfl) ?y31 ?r31
      case y31 => intro w; go_simp; first | done | with_reducible rfl
      simp only [Act.put, List.setIfInBounds_toArray, List.set_cons_zero, List.set_cons_succ]
      refine wpAny_ready (rs := [6]) (by kernel_rfl) (by simp) ?_
      refine AllReady.cons rfl (fun K hK => ?_) AllReady.nil
      go_simp
      refine (l01Next_any _ _ _ (H5.out.1.ext (Ext.refl _).drew) (by omega)).mono ?_
      rintro e w6 ⟨z, rfl, hz0, hz1, hd⟩
      obtain ⟨k, rfl⟩ := Int.eq_ofNat_of_zero_le hz0
      have hk : k < n4 := by omega
      have hki : (k : Int) < n4 := by omega
      have hd6 : Drew w5 g w6 := Drew.pre (Ext.refl _).drew hd.drew
      have H6 := Lib.hid hd6
      have hck := (hd6.cell (p := ⟨b, o + k, none⟩) hbl hbg).trans (HA.out k hk)
      have hsk := HZ.out k hk
      clear hd hd6 hz1
      go_wp2_with fail
      try simp only [Act.put, List.setIfInBounds_toArray, List.set_cons_zero, List.set_cons_succ]
      refine takeYes 7 42 ?v32 rfl rfl (by kernel_rfl) (by kernel_rfl) (by kernel_rfl) (fun _ _ _ _ h => h) (by kernel_rfl) ?y32 ?r32
      case y32 => intro w; go_simp; first | done | with_reducible rfl
      simp only [Act.put, List.setIfInBounds_toArray, List.set_cons_zero, List.set_cons_succ]
      refine takeYes 9 2 ?v33 rfl rfl (by kernel_rfl) (by kernel_rfl) (by kernel_rfl) (fun _ _ _ _ h => h) (by kernel_rfl) ?y33 ?r33
      case y33 => intro w; go_simp; first | done | with_reducible rfl
      simp only [Act.put, List.setIfInBounds_toArray, List.set_cons_zero, List.set_cons_succ]
      refine takeYes 10 3 ?v34 rfl rfl (by kernel_rfl) (by kernel_rfl) (by kernel_rfl) (fun _ _ _ _ h => h) (by kernel_rfl) ?y34 ?r34
      case y34 => intro w; go_simp; first | done | with_reducible rfl
      simp only [Act.put, List.setIfInBounds_toArray, List.set_cons_zero, List.set_cons_succ]
      refine wpAny_ready (rs := [8]) (by kernel_rfl) (by simp) ?_
      refine AllReady.cons rfl (fun K hK => ?_) AllReady.nil
      go_simp
      refine hK _ _ ?_
      clear hK K
      try simp only [Act.put, List.setIfInBounds_toArray, List.set_cons_zero, List.set_cons_succ]
      refine takeYes 11 4 ?v35 rfl rfl (by kernel_rfl) (by kernel_rfl) (by kernel_rfl) (fun _ _ _ _ h => h) (by kernel_rfl) ?y35 ?r35
      case y35 => intro w; go_simp; first | done | with_reducible rfl
      simp only [Act.put, List.setIfInBounds_toArray, List.set_cons_zero, List.set_cons_succ]
      refine wpAny_done (by kernel_rfl) ?_ _
      go_wp2
      go_ret3
      exact HR.out _ _ hsk (H5.out.trans H6.out)
    · go_wp2_with fail
      refine (l01DrawWord_any _ _ H5.out.1).mono ?_
      rintro e w6 ⟨t, rfl, ht, hd⟩
      have H6 := Lib.hid (H5.out.trans hd)
      clear hd
      go_wp2
      go_ret3
      exact HR.out _ _ (by omega) H6.out
  · have hn0i : ¬ (0 : Int) < n4 := by omega
    go_wp2_with fail
    refine (l01DrawWord_any _ _ H4.out.1).mono ?_
    rintro e w5 ⟨t, rfl, ht, hd⟩
    have H5 := Lib.hid hd
    clear hd
    go_wp2
    go_ret3
    exact HR.out _ _ (by omega) H5.out

end Go.Proofs.YtfglmoedicijkaaGreatDoor

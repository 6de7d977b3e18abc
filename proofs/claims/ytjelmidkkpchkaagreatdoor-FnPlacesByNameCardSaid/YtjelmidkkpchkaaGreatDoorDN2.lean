/-
  The reference's draw of a name.
-/
import Derived.Test.YtjelmidkkpchkaaGreatDoorDN
namespace Go.Proofs.YtjelmidkkpchkaaGreatDoor
open Go.RowKit

def DrewN (w : World) (g : Nat) (e : Ending) (w' : World) : Prop := ∃ x : NameV, e = .returned (valName x) ∧ (x.text.size ≤ 217 ∧ x.lang.size ≤ 17) ∧ Drew w g w'

set_option maxRecDepth 100000 in
set_option maxHeartbeats 8000000 in
theorem l09Draw_any (g : Nat) (w : World) (hs : Src w g) :
    Calls Tryz.prog 147 #[.pointer (some ⟨g, 0, none⟩)] w (DrewN w g) := by
  have hg := hs.lt
  have hwg : w.heap.size ≠ g := by omega
  have HS := Lib.hid hs
  clear hs
  go_enter Tryz.func147, Tryz.ntmps147
  go_wp2
  apply withKey
  case h =>
   intro key0
   apply withKey
   case h =>
    intro key1
    apply withKey
    case h =>
     intro key2
     apply withKey
     case h =>
      intro key3
      apply withKey
      case h =>
       intro key4
       apply withKey
       case h =>
        intro key5
        apply withKey
        case h =>
         intro key6
         apply withKey
         case h =>
          intro key7
          apply withKey
          case h =>
           intro key8
           apply withKey
           case h =>
            intro key9
            apply withKey
            case h =>
             intro key10
             apply withKey
             case h =>
              intro key11
              apply withKey
              case h =>
               intro key12
               apply withKey
               case h =>
                intro key13
                apply withKey
                case h =>
                 intro key14
                 apply withKey
                 case h =>
                  intro key15
                  apply withKey
                  case h =>
                   intro key16
                   apply withKey
                   case h =>
                    intro key17
                    apply withKey
                    case h =>
                     intro key18
                     apply withKey
                     case h =>
                      intro key19
                      apply withKey
                      case h =>
                       intro key20
                       apply withKey
                       case h =>
                        intro key21
                        apply withKey
                        case h =>
                         intro key22
                         apply withKey
                         case h =>
                          intro key23
                          apply withKey
                          case h =>
                           intro key24
                           apply withKey
                           case h =>
                            intro key25
                            apply withKey
                            case h =>
                             intro key26
                             apply withKey
                             case h =>
                              intro key27
                              apply withKey
                              case h =>
                               intro key28
                               apply withKey
                               case h =>
                                intro key29
                                apply withKey
                                case h =>
                                 intro key30
                                 apply withKey
                                 case h =>
                                  intro key31
                                  apply withKey
                                  case h =>
                                   intro key32
                                   apply withKey
                                   case h =>
                                    intro key33
                                    apply withKey
                                    case h =>
                                     intro key34
                                     apply withKey
                                     case h =>
                                      intro key35
                                      apply withKey
                                      case h =>
                                       intro key36
                                       apply withKey
                                       case h =>
                                        intro key37
                                        apply withKey
                                        case h =>
                                         intro key38
                                         apply withKey
                                         case h =>
                                          intro key39
                                          refine wp_region_any (by kernel_rfl) ?_
                                          try (change wpAny _ _ _ _ _ _ _ (World.drew _))
                                          have hb := Lib.hid (And.intro (Drew.of_ext (HS.out.ext ((Ext.refl w).alloc (.cells #[.string ⟨#[]⟩, .string ⟨#[]⟩, .int .i64 0, .int .i64 0, .int .i64 0] 69))) (Ext.refl _).drew) ((Box.new w #[.string ⟨#[]⟩, .string ⟨#[]⟩, .int .i64 0, .int .i64 0, .int .i64 0] 69).ext (Ext.refl _).drew))
                                          generalize (w.alloc (.cells #[.string ⟨#[]⟩, .string ⟨#[]⟩, .int .i64 0, .int .i64 0, .int .i64 0] 69)).drew = wd at hb ⊢
                                          refine takeYes 0 4 ?v1 rfl rfl (by kernel_rfl) (by kernel_rfl) (by kernel_rfl) (fun _ _ _ _ h => h) (by kernel_rfl) ?y1 ?r1
                                          case y1 => intro w; go_simp; first | done | with_reducible rfl
                                          simp only [Act.put, List.setIfInBounds_toArray, List.set_cons_zero, List.set_cons_succ]
                                          refine takeYes 3 7 ?v2 rfl rfl (by kernel_rfl) (by kernel_rfl) (by kernel_rfl) (fun _ _ _ _ h => h) (by kernel_rfl) ?y2 ?r2
                                          case y2 => intro w; go_simp; first | done | with_reducible rfl
                                          simp only [Act.put, List.setIfInBounds_toArray, List.set_cons_zero, List.set_cons_succ]
                                          refine takeYes 7 11 ?v3 rfl rfl (by kernel_rfl) (by kernel_rfl) (by kernel_rfl) (fun _ _ _ _ h => h) (by kernel_rfl) ?y3 ?r3
                                          case y3 => intro w; go_simp; first | done | with_reducible rfl
                                          simp only [Act.put, List.setIfInBounds_toArray, List.set_cons_zero, List.set_cons_succ]
                                          refine takeYes 10 14 ?v4 rfl rfl (by kernel_rfl) (by kernel_rfl) (by kernel_rfl) (fun _ _ _ _ h => h) (by kernel_rfl) ?y4 ?r4
                                          case y4 => intro w; go_simp; first | done | with_reducible rfl
                                          simp only [Act.put, List.setIfInBounds_toArray, List.set_cons_zero, List.set_cons_succ]
                                          revert hb; revert wd
                                          exact key39
                                         intro wd hb
                                         refine wpAny_ready (rs := [1, 2, 8, 13]) (by kernel_rfl) (by simp) ?_
                                         refine AllReady.cons rfl (fun K hK => ?_) (AllReady.cons rfl (fun K hK => ?_) (AllReady.cons rfl (fun K hK => ?_) (AllReady.cons rfl (fun K hK => ?_) AllReady.nil)))
                                         · skip
                                           go_simp
                                           refine (l01GoodPhrase_any _ _ hb.out.1.1).mono ?_
                                           rintro e we ⟨s, rfl, hsz, hD⟩
                                           have hs := Lib.hid hsz
                                           clear hsz
                                           go_wp2_with fail
                                           try simp only [Act.put, List.setIfInBounds_toArray, List.set_cons_zero, List.set_cons_succ]
                                           have q_hb := Lib.hid (And.intro (hb.out.1.trans hD) (hb.out.2.drew hD hwg))
                                           clear hD hb
                                           clear wd
                                           revert hs; revert q_hb; revert we; revert s
                                           exact key31
                                         · skip
                                           go_simp
                                           refine hK _ _ ?_
                                           clear hK K
                                           have hD : Drew wd g (wd.alloc (.cells #[.string ⟨#[101, 110]⟩, .string ⟨#[100, 101]⟩, .string ⟨#[102, 114]⟩, .string ⟨#[108, 97, 116]⟩] 9)) := Drew.of_ext hb.out.1.1 ((Ext.refl _).alloc _)
                                           have h2 := Lib.hid (And.intro (Box.new wd #[.string ⟨#[101, 110]⟩, .string ⟨#[100, 101]⟩, .string ⟨#[102, 114]⟩, .string ⟨#[108, 97, 116]⟩] 9) (show wd.heap.size ≠ g ∧ w.heap.size < wd.heap.size from ⟨Nat.ne_of_gt hb.out.1.1.lt, hb.out.2.lt⟩))
                                           generalize wd.alloc (.cells #[.string ⟨#[101, 110]⟩, .string ⟨#[100, 101]⟩, .string ⟨#[102, 114]⟩, .string ⟨#[108, 97, 116]⟩] 9) = we at hD h2 ⊢
                                           generalize wd.heap.size = b2 at h2 ⊢
                                           try simp only [Act.put, List.setIfInBounds_toArray, List.set_cons_zero, List.set_cons_succ]
                                           have q_hb := Lib.hid (And.intro (hb.out.1.trans hD) (hb.out.2.drew hD hwg))
                                           clear hD hb
                                           clear wd
                                           revert h2; revert q_hb; revert we; revert b2
                                           exact key35
                                         · skip
                                           go_simp
                                           refine hK _ _ ?_
                                           clear hK K
                                           have hD : Drew wd g (wd.alloc (.cells #[.int .i64 0, .int .i64 0, .int .i64 1, .int .i64 2] 2)) := Drew.of_ext hb.out.1.1 ((Ext.refl _).alloc _)
                                           have h8 := Lib.hid (And.intro (Box.new wd #[.int .i64 0, .int .i64 0, .int .i64 1, .int .i64 2] 2) (show wd.heap.size ≠ g ∧ w.heap.size < wd.heap.size from ⟨Nat.ne_of_gt hb.out.1.1.lt, hb.out.2.lt⟩))
                                           generalize wd.alloc (.cells #[.int .i64 0, .int .i64 0, .int .i64 1, .int .i64 2] 2) = we at hD h8 ⊢
                                           generalize wd.heap.size = b8 at h8 ⊢
                                           try simp only [Act.put, List.setIfInBounds_toArray, List.set_cons_zero, List.set_cons_succ]
                                           have q_hb := Lib.hid (And.intro (hb.out.1.trans hD) (hb.out.2.drew hD hwg))
                                           clear hD hb
                                           clear wd
                                           revert h8; revert q_hb; revert we; revert b8
                                           exact key37
                                         · skip
                                           go_simp
                                           refine hK _ _ ?_
                                           clear hK K
                                           have hD : Drew wd g (wd.alloc (.cells #[.string ⟨#[]⟩, .string ⟨#[]⟩, .int .i64 0, .int .i64 0, .int .i64 0] 69)) := Drew.of_ext hb.out.1.1 ((Ext.refl _).alloc _)
                                           have h13 := Lib.hid (And.intro (Box.new wd #[.string ⟨#[]⟩, .string ⟨#[]⟩, .int .i64 0, .int .i64 0, .int .i64 0] 69) (show wd.heap.size ≠ g ∧ w.heap.size < wd.heap.size from ⟨Nat.ne_of_gt hb.out.1.1.lt, hb.out.2.lt⟩))
                                           generalize wd.alloc (.cells #[.string ⟨#[]⟩, .string ⟨#[]⟩, .int .i64 0, .int .i64 0, .int .i64 0] 69) = we at hD h13 ⊢
                                           generalize wd.heap.size = b13 at h13 ⊢
                                           try simp only [Act.put, List.setIfInBounds_toArray, List.set_cons_zero, List.set_cons_succ]
                                           have q_hb := Lib.hid (And.intro (hb.out.1.trans hD) (hb.out.2.drew hD hwg))
                                           clear hD hb
                                           clear wd
                                           revert h13; revert q_hb; revert we; revert b13
                                           exact key38
                                        intro b13 wd hb h13
                                        refine wpAny_ready (rs := [1, 2, 8]) (by kernel_rfl) (by simp) ?_
                                        refine AllReady.cons rfl (fun K hK => ?_) (AllReady.cons rfl (fun K hK => ?_) (AllReady.cons rfl (fun K hK => ?_) AllReady.nil))
                                        · skip
                                          go_simp
                                          refine (l01GoodPhrase_any _ _ hb.out.1.1).mono ?_
                                          rintro e we ⟨s, rfl, hsz, hD⟩
                                          have hs := Lib.hid hsz
                                          clear hsz
                                          go_wp2_with fail
                                          try simp only [Act.put, List.setIfInBounds_toArray, List.set_cons_zero, List.set_cons_succ]
                                          have q_hb := Lib.hid (And.intro (hb.out.1.trans hD) (hb.out.2.drew hD hwg))
                                          have q_h13 := Lib.hid (And.intro (h13.out.1.drew hD h13.out.2.1) h13.out.2)
                                          clear hD hb h13
                                          clear wd
                                          revert q_h13; revert hs; revert q_hb; revert we; revert b13; revert s
                                          exact key30
                                        · skip
                                          go_simp
                                          refine hK _ _ ?_
                                          clear hK K
                                          have hD : Drew wd g (wd.alloc (.cells #[.string ⟨#[101, 110]⟩, .string ⟨#[100, 101]⟩, .string ⟨#[102, 114]⟩, .string ⟨#[108, 97, 116]⟩] 9)) := Drew.of_ext hb.out.1.1 ((Ext.refl _).alloc _)
                                          have h2 := Lib.hid (And.intro (Box.new wd #[.string ⟨#[101, 110]⟩, .string ⟨#[100, 101]⟩, .string ⟨#[102, 114]⟩, .string ⟨#[108, 97, 116]⟩] 9) (show wd.heap.size ≠ g ∧ w.heap.size < wd.heap.size from ⟨Nat.ne_of_gt hb.out.1.1.lt, hb.out.2.lt⟩))
                                          generalize wd.alloc (.cells #[.string ⟨#[101, 110]⟩, .string ⟨#[100, 101]⟩, .string ⟨#[102, 114]⟩, .string ⟨#[108, 97, 116]⟩] 9) = we at hD h2 ⊢
                                          generalize wd.heap.size = b2 at h2 ⊢
                                          try simp only [Act.put, List.setIfInBounds_toArray, List.set_cons_zero, List.set_cons_succ]
                                          have q_hb := Lib.hid (And.intro (hb.out.1.trans hD) (hb.out.2.drew hD hwg))
                                          have q_h13 := Lib.hid (And.intro (h13.out.1.drew hD h13.out.2.1) h13.out.2)
                                          clear hD hb h13
                                          clear wd
                                          revert q_h13; revert h2; revert q_hb; revert we; revert b13; revert b2
                                          exact key34
                                        · skip
                                          go_simp
                                          refine hK _ _ ?_
                                          clear hK K
                                          have hD : Drew wd g (wd.alloc (.cells #[.int .i64 0, .int .i64 0, .int .i64 1, .int .i64 2] 2)) := Drew.of_ext hb.out.1.1 ((Ext.refl _).alloc _)
                                          have h8 := Lib.hid (And.intro (Box.new wd #[.int .i64 0, .int .i64 0, .int .i64 1, .int .i64 2] 2) (show wd.heap.size ≠ g ∧ w.heap.size < wd.heap.size from ⟨Nat.ne_of_gt hb.out.1.1.lt, hb.out.2.lt⟩))
                                          generalize wd.alloc (.cells #[.int .i64 0, .int .i64 0, .int .i64 1, .int .i64 2] 2) = we at hD h8 ⊢
                                          generalize wd.heap.size = b8 at h8 ⊢
                                          try simp only [Act.put, List.setIfInBounds_toArray, List.set_cons_zero, List.set_cons_succ]
                                          have q_hb := Lib.hid (And.intro (hb.out.1.trans hD) (hb.out.2.drew hD hwg))
                                          have q_h13 := Lib.hid (And.intro (h13.out.1.drew hD h13.out.2.1) h13.out.2)
                                          clear hD hb h13
                                          clear wd
                                          revert q_h13; revert h8; revert q_hb; revert we; revert b13; revert b8
                                          exact key36
                                       intro b8 wd hb h8
                                       refine wpAny_ready (rs := [1, 2, 13]) (by kernel_rfl) (by simp) ?_
                                       refine AllReady.cons rfl (fun K hK => ?_) (AllReady.cons rfl (fun K hK => ?_) (AllReady.cons rfl (fun K hK => ?_) AllReady.nil))
                                       · skip
                                         go_simp
                                         refine (l01GoodPhrase_any _ _ hb.out.1.1).mono ?_
                                         rintro e we ⟨s, rfl, hsz, hD⟩
                                         have hs := Lib.hid hsz
                                         clear hsz
                                         go_wp2_with fail
                                         try simp only [Act.put, List.setIfInBounds_toArray, List.set_cons_zero, List.set_cons_succ]
                                         have q_hb := Lib.hid (And.intro (hb.out.1.trans hD) (hb.out.2.drew hD hwg))
                                         have q_h8 := Lib.hid (And.intro (h8.out.1.drew hD h8.out.2.1) h8.out.2)
                                         clear hD hb h8
                                         clear wd
                                         revert q_h8; revert hs; revert q_hb; revert we; revert b8; revert s
                                         exact key29
                                       · skip
                                         go_simp
                                         refine hK _ _ ?_
                                         clear hK K
                                         have hD : Drew wd g (wd.alloc (.cells #[.string ⟨#[101, 110]⟩, .string ⟨#[100, 101]⟩, .string ⟨#[102, 114]⟩, .string ⟨#[108, 97, 116]⟩] 9)) := Drew.of_ext hb.out.1.1 ((Ext.refl _).alloc _)
                                         have h2 := Lib.hid (And.intro (Box.new wd #[.string ⟨#[101, 110]⟩, .string ⟨#[100, 101]⟩, .string ⟨#[102, 114]⟩, .string ⟨#[108, 97, 116]⟩] 9) (show wd.heap.size ≠ g ∧ w.heap.size < wd.heap.size from ⟨Nat.ne_of_gt hb.out.1.1.lt, hb.out.2.lt⟩))
                                         generalize wd.alloc (.cells #[.string ⟨#[101, 110]⟩, .string ⟨#[100, 101]⟩, .string ⟨#[102, 114]⟩, .string ⟨#[108, 97, 116]⟩] 9) = we at hD h2 ⊢
                                         generalize wd.heap.size = b2 at h2 ⊢
                                         try simp only [Act.put, List.setIfInBounds_toArray, List.set_cons_zero, List.set_cons_succ]
                                         have q_hb := Lib.hid (And.intro (hb.out.1.trans hD) (hb.out.2.drew hD hwg))
                                         have q_h8 := Lib.hid (And.intro (h8.out.1.drew hD h8.out.2.1) h8.out.2)
                                         clear hD hb h8
                                         clear wd
                                         revert q_h8; revert h2; revert q_hb; revert we; revert b8; revert b2
                                         exact key33
                                       · skip
                                         go_simp
                                         refine hK _ _ ?_
                                         clear hK K
                                         have hD : Drew wd g (wd.alloc (.cells #[.string ⟨#[]⟩, .string ⟨#[]⟩, .int .i64 0, .int .i64 0, .int .i64 0] 69)) := Drew.of_ext hb.out.1.1 ((Ext.refl _).alloc _)
                                         have h13 := Lib.hid (And.intro (Box.new wd #[.string ⟨#[]⟩, .string ⟨#[]⟩, .int .i64 0, .int .i64 0, .int .i64 0] 69) (show wd.heap.size ≠ g ∧ w.heap.size < wd.heap.size from ⟨Nat.ne_of_gt hb.out.1.1.lt, hb.out.2.lt⟩))
                                         generalize wd.alloc (.cells #[.string ⟨#[]⟩, .string ⟨#[]⟩, .int .i64 0, .int .i64 0, .int .i64 0] 69) = we at hD h13 ⊢
                                         generalize wd.heap.size = b13 at h13 ⊢
                                         try simp only [Act.put, List.setIfInBounds_toArray, List.set_cons_zero, List.set_cons_succ]
                                         have q_hb := Lib.hid (And.intro (hb.out.1.trans hD) (hb.out.2.drew hD hwg))
                                         have q_h8 := Lib.hid (And.intro (h8.out.1.drew hD h8.out.2.1) h8.out.2)
                                         clear hD hb h8
                                         clear wd
                                         revert h13; revert q_h8; revert q_hb; revert we; revert b13; revert b8
                                         exact key36
                                      intro b8 b13 wd hb h8 h13
                                      refine wpAny_ready (rs := [1, 2]) (by kernel_rfl) (by simp) ?_
                                      refine AllReady.cons rfl (fun K hK => ?_) (AllReady.cons rfl (fun K hK => ?_) AllReady.nil)
                                      · skip
                                        go_simp
                                        refine (l01GoodPhrase_any _ _ hb.out.1.1).mono ?_
                                        rintro e we ⟨s, rfl, hsz, hD⟩
                                        have hs := Lib.hid hsz
                                        clear hsz
                                        go_wp2_with fail
                                        try simp only [Act.put, List.setIfInBounds_toArray, List.set_cons_zero, List.set_cons_succ]
                                        have q_hb := Lib.hid (And.intro (hb.out.1.trans hD) (hb.out.2.drew hD hwg))
                                        have q_h8 := Lib.hid (And.intro (h8.out.1.drew hD h8.out.2.1) h8.out.2)
                                        have q_h13 := Lib.hid (And.intro (h13.out.1.drew hD h13.out.2.1) h13.out.2)
                                        clear hD hb h8 h13
                                        clear wd
                                        revert q_h13; revert q_h8; revert hs; revert q_hb; revert we; revert b13; revert b8; revert s
                                        exact key28
                                      · skip
                                        go_simp
                                        refine hK _ _ ?_
                                        clear hK K
                                        have hD : Drew wd g (wd.alloc (.cells #[.string ⟨#[101, 110]⟩, .string ⟨#[100, 101]⟩, .string ⟨#[102, 114]⟩, .string ⟨#[108, 97, 116]⟩] 9)) := Drew.of_ext hb.out.1.1 ((Ext.refl _).alloc _)
                                        have h2 := Lib.hid (And.intro (Box.new wd #[.string ⟨#[101, 110]⟩, .string ⟨#[100, 101]⟩, .string ⟨#[102, 114]⟩, .string ⟨#[108, 97, 116]⟩] 9) (show wd.heap.size ≠ g ∧ w.heap.size < wd.heap.size from ⟨Nat.ne_of_gt hb.out.1.1.lt, hb.out.2.lt⟩))
                                        generalize wd.alloc (.cells #[.string ⟨#[101, 110]⟩, .string ⟨#[100, 101]⟩, .string ⟨#[102, 114]⟩, .string ⟨#[108, 97, 116]⟩] 9) = we at hD h2 ⊢
                                        generalize wd.heap.size = b2 at h2 ⊢
                                        try simp only [Act.put, List.setIfInBounds_toArray, List.set_cons_zero, List.set_cons_succ]
                                        have q_hb := Lib.hid (And.intro (hb.out.1.trans hD) (hb.out.2.drew hD hwg))
                                        have q_h8 := Lib.hid (And.intro (h8.out.1.drew hD h8.out.2.1) h8.out.2)
                                        have q_h13 := Lib.hid (And.intro (h13.out.1.drew hD h13.out.2.1) h13.out.2)
                                        clear hD hb h8 h13
                                        clear wd
                                        revert q_h13; revert q_h8; revert h2; revert q_hb; revert we; revert b13; revert b8; revert b2
                                        exact key32
                                     intro b2 wd hb h2
                                     refine wpAny_ready (rs := [1, 8, 13]) (by kernel_rfl) (by simp) ?_
                                     refine AllReady.cons rfl (fun K hK => ?_) (AllReady.cons rfl (fun K hK => ?_) (AllReady.cons rfl (fun K hK => ?_) AllReady.nil))
                                     · skip
                                       go_simp
                                       refine (l01GoodPhrase_any _ _ hb.out.1.1).mono ?_
                                       rintro e we ⟨s, rfl, hsz, hD⟩
                                       have hs := Lib.hid hsz
                                       clear hsz
                                       go_wp2_with fail
                                       try simp only [Act.put, List.setIfInBounds_toArray, List.set_cons_zero, List.set_cons_succ]
                                       have q_hb := Lib.hid (And.intro (hb.out.1.trans hD) (hb.out.2.drew hD hwg))
                                       have q_h2 := Lib.hid (And.intro (h2.out.1.drew hD h2.out.2.1) h2.out.2)
                                       clear hD hb h2
                                       clear wd
                                       revert q_h2; revert hs; revert q_hb; revert we; revert b2; revert s
                                       exact key19
                                     · skip
                                       go_simp
                                       refine hK _ _ ?_
                                       clear hK K
                                       have hD : Drew wd g (wd.alloc (.cells #[.int .i64 0, .int .i64 0, .int .i64 1, .int .i64 2] 2)) := Drew.of_ext hb.out.1.1 ((Ext.refl _).alloc _)
                                       have h8 := Lib.hid (And.intro (Box.new wd #[.int .i64 0, .int .i64 0, .int .i64 1, .int .i64 2] 2) (show wd.heap.size ≠ g ∧ w.heap.size < wd.heap.size from ⟨Nat.ne_of_gt hb.out.1.1.lt, hb.out.2.lt⟩))
                                       generalize wd.alloc (.cells #[.int .i64 0, .int .i64 0, .int .i64 1, .int .i64 2] 2) = we at hD h8 ⊢
                                       generalize wd.heap.size = b8 at h8 ⊢
                                       try simp only [Act.put, List.setIfInBounds_toArray, List.set_cons_zero, List.set_cons_succ]
                                       have q_hb := Lib.hid (And.intro (hb.out.1.trans hD) (hb.out.2.drew hD hwg))
                                       have q_h2 := Lib.hid (And.intro (h2.out.1.drew hD h2.out.2.1) h2.out.2)
                                       clear hD hb h2
                                       clear wd
                                       revert h8; revert q_h2; revert q_hb; revert we; revert b8; revert b2
                                       exact key33
                                     · skip
                                       go_simp
                                       refine hK _ _ ?_
                                       clear hK K
                                       have hD : Drew wd g (wd.alloc (.cells #[.string ⟨#[]⟩, .string ⟨#[]⟩, .int .i64 0, .int .i64 0, .int .i64 0] 69)) := Drew.of_ext hb.out.1.1 ((Ext.refl _).alloc _)
                                       have h13 := Lib.hid (And.intro (Box.new wd #[.string ⟨#[]⟩, .string ⟨#[]⟩, .int .i64 0, .int .i64 0, .int .i64 0] 69) (show wd.heap.size ≠ g ∧ w.heap.size < wd.heap.size from ⟨Nat.ne_of_gt hb.out.1.1.lt, hb.out.2.lt⟩))
                                       generalize wd.alloc (.cells #[.string ⟨#[]⟩, .string ⟨#[]⟩, .int .i64 0, .int .i64 0, .int .i64 0] 69) = we at hD h13 ⊢
                                       generalize wd.heap.size = b13 at h13 ⊢
                                       try simp only [Act.put, List.setIfInBounds_toArray, List.set_cons_zero, List.set_cons_succ]
                                       have q_hb := Lib.hid (And.intro (hb.out.1.trans hD) (hb.out.2.drew hD hwg))
                                       have q_h2 := Lib.hid (And.intro (h2.out.1.drew hD h2.out.2.1) h2.out.2)
                                       clear hD hb h2
                                       clear wd
                                       revert h13; revert q_h2; revert q_hb; revert we; revert b13; revert b2
                                       exact key34
                                    intro b2 b13 wd hb h2 h13
                                    refine wpAny_ready (rs := [1, 8]) (by kernel_rfl) (by simp) ?_
                                    refine AllReady.cons rfl (fun K hK => ?_) (AllReady.cons rfl (fun K hK => ?_) AllReady.nil)
                                    · skip
                                      go_simp
                                      refine (l01GoodPhrase_any _ _ hb.out.1.1).mono ?_
                                      rintro e we ⟨s, rfl, hsz, hD⟩
                                      have hs := Lib.hid hsz
                                      clear hsz
                                      go_wp2_with fail
                                      try simp only [Act.put, List.setIfInBounds_toArray, List.set_cons_zero, List.set_cons_succ]
                                      have q_hb := Lib.hid (And.intro (hb.out.1.trans hD) (hb.out.2.drew hD hwg))
                                      have q_h2 := Lib.hid (And.intro (h2.out.1.drew hD h2.out.2.1) h2.out.2)
                                      have q_h13 := Lib.hid (And.intro (h13.out.1.drew hD h13.out.2.1) h13.out.2)
                                      clear hD hb h2 h13
                                      clear wd
                                      revert q_h13; revert q_h2; revert hs; revert q_hb; revert we; revert b13; revert b2; revert s
                                      exact key18
                                    · skip
                                      go_simp
                                      refine hK _ _ ?_
                                      clear hK K
                                      have hD : Drew wd g (wd.alloc (.cells #[.int .i64 0, .int .i64 0, .int .i64 1, .int .i64 2] 2)) := Drew.of_ext hb.out.1.1 ((Ext.refl _).alloc _)
                                      have h8 := Lib.hid (And.intro (Box.new wd #[.int .i64 0, .int .i64 0, .int .i64 1, .int .i64 2] 2) (show wd.heap.size ≠ g ∧ w.heap.size < wd.heap.size from ⟨Nat.ne_of_gt hb.out.1.1.lt, hb.out.2.lt⟩))
                                      generalize wd.alloc (.cells #[.int .i64 0, .int .i64 0, .int .i64 1, .int .i64 2] 2) = we at hD h8 ⊢
                                      generalize wd.heap.size = b8 at h8 ⊢
                                      try simp only [Act.put, List.setIfInBounds_toArray, List.set_cons_zero, List.set_cons_succ]
                                      have q_hb := Lib.hid (And.intro (hb.out.1.trans hD) (hb.out.2.drew hD hwg))
                                      have q_h2 := Lib.hid (And.intro (h2.out.1.drew hD h2.out.2.1) h2.out.2)
                                      have q_h13 := Lib.hid (And.intro (h13.out.1.drew hD h13.out.2.1) h13.out.2)
                                      clear hD hb h2 h13
                                      clear wd
                                      revert q_h13; revert h8; revert q_h2; revert q_hb; revert we; revert b13; revert b8; revert b2
                                      exact key32
                                   intro b2 b8 wd hb h2 h8
                                   refine wpAny_ready (rs := [1, 13]) (by kernel_rfl) (by simp) ?_
                                   refine AllReady.cons rfl (fun K hK => ?_) (AllReady.cons rfl (fun K hK => ?_) AllReady.nil)
                                   · skip
                                     go_simp
                                     refine (l01GoodPhrase_any _ _ hb.out.1.1).mono ?_
                                     rintro e we ⟨s, rfl, hsz, hD⟩
                                     have hs := Lib.hid hsz
                                     clear hsz
                                     go_wp2_with fail
                                     try simp only [Act.put, List.setIfInBounds_toArray, List.set_cons_zero, List.set_cons_succ]
                                     have q_hb := Lib.hid (And.intro (hb.out.1.trans hD) (hb.out.2.drew hD hwg))
                                     have q_h2 := Lib.hid (And.intro (h2.out.1.drew hD h2.out.2.1) h2.out.2)
                                     have q_h8 := Lib.hid (And.intro (h8.out.1.drew hD h8.out.2.1) h8.out.2)
                                     clear hD hb h2 h8
                                     clear wd
                                     revert q_h8; revert q_h2; revert hs; revert q_hb; revert we; revert b8; revert b2; revert s
                                     exact key17
                                   · skip
                                     go_simp
                                     refine hK _ _ ?_
                                     clear hK K
                                     have hD : Drew wd g (wd.alloc (.cells #[.string ⟨#[]⟩, .string ⟨#[]⟩, .int .i64 0, .int .i64 0, .int .i64 0] 69)) := Drew.of_ext hb.out.1.1 ((Ext.refl _).alloc _)
                                     have h13 := Lib.hid (And.intro (Box.new wd #[.string ⟨#[]⟩, .string ⟨#[]⟩, .int .i64 0, .int .i64 0, .int .i64 0] 69) (show wd.heap.size ≠ g ∧ w.heap.size < wd.heap.size from ⟨Nat.ne_of_gt hb.out.1.1.lt, hb.out.2.lt⟩))
                                     generalize wd.alloc (.cells #[.string ⟨#[]⟩, .string ⟨#[]⟩, .int .i64 0, .int .i64 0, .int .i64 0] 69) = we at hD h13 ⊢
                                     generalize wd.heap.size = b13 at h13 ⊢
                                     try simp only [Act.put, List.setIfInBounds_toArray, List.set_cons_zero, List.set_cons_succ]
                                     have q_hb := Lib.hid (And.intro (hb.out.1.trans hD) (hb.out.2.drew hD hwg))
                                     have q_h2 := Lib.hid (And.intro (h2.out.1.drew hD h2.out.2.1) h2.out.2)
                                     have q_h8 := Lib.hid (And.intro (h8.out.1.drew hD h8.out.2.1) h8.out.2)
                                     clear hD hb h2 h8
                                     clear wd
                                     revert h13; revert q_h8; revert q_h2; revert q_hb; revert we; revert b13; revert b8; revert b2
                                     exact key32
                                  intro b2 b8 b13 wd hb h2 h8 h13
                                  refine wpAny_ready (rs := [1]) (by kernel_rfl) (by simp) ?_
                                  refine AllReady.cons rfl (fun K hK => ?_) AllReady.nil
                                  skip
                                  go_simp
                                  refine (l01GoodPhrase_any _ _ hb.out.1.1).mono ?_
                                  rintro e we ⟨s, rfl, hsz, hD⟩
                                  have hs := Lib.hid hsz
                                  clear hsz
                                  go_wp2_with fail
                                  try simp only [Act.put, List.setIfInBounds_toArray, List.set_cons_zero, List.set_cons_succ]
                                  have q_hb := Lib.hid (And.intro (hb.out.1.trans hD) (hb.out.2.drew hD hwg))
                                  have q_h2 := Lib.hid (And.intro (h2.out.1.drew hD h2.out.2.1) h2.out.2)
                                  have q_h8 := Lib.hid (And.intro (h8.out.1.drew hD h8.out.2.1) h8.out.2)
                                  have q_h13 := Lib.hid (And.intro (h13.out.1.drew hD h13.out.2.1) h13.out.2)
                                  clear hD hb h2 h8 h13
                                  clear wd
                                  revert q_h13; revert q_h8; revert q_h2; revert hs; revert q_hb; revert we; revert b13; revert b8; revert b2; revert s
                                  exact key16
                                 intro s wd hb hs
                                 refine wpAny_ready (rs := [2, 4, 8, 13]) (by kernel_rfl) (by simp) ?_
                                 refine AllReady.cons rfl (fun K hK => ?_) (AllReady.cons rfl (fun K hK => ?_) (AllReady.cons rfl (fun K hK => ?_) (AllReady.cons rfl (fun K hK => ?_) AllReady.nil)))
                                 · skip
                                   go_simp
                                   refine hK _ _ ?_
                                   clear hK K
                                   have hD : Drew wd g (wd.alloc (.cells #[.string ⟨#[101, 110]⟩, .string ⟨#[100, 101]⟩, .string ⟨#[102, 114]⟩, .string ⟨#[108, 97, 116]⟩] 9)) := Drew.of_ext hb.out.1.1 ((Ext.refl _).alloc _)
                                   have h2 := Lib.hid (And.intro (Box.new wd #[.string ⟨#[101, 110]⟩, .string ⟨#[100, 101]⟩, .string ⟨#[102, 114]⟩, .string ⟨#[108, 97, 116]⟩] 9) (show wd.heap.size ≠ g ∧ w.heap.size < wd.heap.size from ⟨Nat.ne_of_gt hb.out.1.1.lt, hb.out.2.lt⟩))
                                   generalize wd.alloc (.cells #[.string ⟨#[101, 110]⟩, .string ⟨#[100, 101]⟩, .string ⟨#[102, 114]⟩, .string ⟨#[108, 97, 116]⟩] 9) = we at hD h2 ⊢
                                   generalize wd.heap.size = b2 at h2 ⊢
                                   try simp only [Act.put, List.setIfInBounds_toArray, List.set_cons_zero, List.set_cons_succ]
                                   have q_hb := Lib.hid (And.intro (hb.out.1.trans hD) (hb.out.2.drew hD hwg))
                                   have q_hs := Lib.hid (hs.out)
                                   clear hD hb hs
                                   clear wd
                                   revert h2; revert q_hs; revert q_hb; revert we; revert b2; revert s
                                   exact key19
                                 · skip
                                   go_simp
                                   refine (l01Next_any _ _ _ hb.out.1.1 (by decide)).mono ?_
                                   rintro e we ⟨y0, rfl, hy0, hy1, hD0⟩
                                   obtain ⟨y, rfl, hyn⟩ := pick_nat 4 rfl (by decide) hy0 hy1
                                   have hy := Lib.hid hyn
                                   have hD := hD0.drew
                                   clear hy0 hy1 hD0 hyn
                                   go_wp2_with fail
                                   try simp only [Act.put, List.setIfInBounds_toArray, List.set_cons_zero, List.set_cons_succ]
                                   have q_hb := Lib.hid (And.intro (hb.out.1.trans hD) (hb.out.2.drew hD hwg))
                                   have q_hs := Lib.hid (hs.out)
                                   clear hD hb hs
                                   clear wd
                                   revert hy; revert q_hs; revert q_hb; revert we; revert y; revert s
                                   exact key27
                                 · skip
                                   go_simp
                                   refine hK _ _ ?_
                                   clear hK K
                                   have hD : Drew wd g (wd.alloc (.cells #[.int .i64 0, .int .i64 0, .int .i64 1, .int .i64 2] 2)) := Drew.of_ext hb.out.1.1 ((Ext.refl _).alloc _)
                                   have h8 := Lib.hid (And.intro (Box.new wd #[.int .i64 0, .int .i64 0, .int .i64 1, .int .i64 2] 2) (show wd.heap.size ≠ g ∧ w.heap.size < wd.heap.size from ⟨Nat.ne_of_gt hb.out.1.1.lt, hb.out.2.lt⟩))
                                   generalize wd.alloc (.cells #[.int .i64 0, .int .i64 0, .int .i64 1, .int .i64 2] 2) = we at hD h8 ⊢
                                   generalize wd.heap.size = b8 at h8 ⊢
                                   try simp only [Act.put, List.setIfInBounds_toArray, List.set_cons_zero, List.set_cons_succ]
                                   have q_hb := Lib.hid (And.intro (hb.out.1.trans hD) (hb.out.2.drew hD hwg))
                                   have q_hs := Lib.hid (hs.out)
                                   clear hD hb hs
                                   clear wd
                                   revert h8; revert q_hs; revert q_hb; revert we; revert b8; revert s
                                   exact key29
                                 · skip
                                   go_simp
                                   refine hK _ _ ?_
                                   clear hK K
                                   have hD : Drew wd g (wd.alloc (.cells #[.string ⟨#[]⟩, .string ⟨#[]⟩, .int .i64 0, .int .i64 0, .int .i64 0] 69)) := Drew.of_ext hb.out.1.1 ((Ext.refl _).alloc _)
                                   have h13 := Lib.hid (And.intro (Box.new wd #[.string ⟨#[]⟩, .string ⟨#[]⟩, .int .i64 0, .int .i64 0, .int .i64 0] 69) (show wd.heap.size ≠ g ∧ w.heap.size < wd.heap.size from ⟨Nat.ne_of_gt hb.out.1.1.lt, hb.out.2.lt⟩))
                                   generalize wd.alloc (.cells #[.string ⟨#[]⟩, .string ⟨#[]⟩, .int .i64 0, .int .i64 0, .int .i64 0] 69) = we at hD h13 ⊢
                                   generalize wd.heap.size = b13 at h13 ⊢
                                   try simp only [Act.put, List.setIfInBounds_toArray, List.set_cons_zero, List.set_cons_succ]
                                   have q_hb := Lib.hid (And.intro (hb.out.1.trans hD) (hb.out.2.drew hD hwg))
                                   have q_hs := Lib.hid (hs.out)
                                   clear hD hb hs
                                   clear wd
                                   revert h13; revert q_hs; revert q_hb; revert we; revert b13; revert s
                                   exact key30
                                intro s b13 wd hb hs h13
                                refine wpAny_ready (rs := [2, 4, 8]) (by kernel_rfl) (by simp) ?_
                                refine AllReady.cons rfl (fun K hK => ?_) (AllReady.cons rfl (fun K hK => ?_) (AllReady.cons rfl (fun K hK => ?_) AllReady.nil))
                                · skip
                                  go_simp
                                  refine hK _ _ ?_
                                  clear hK K
                                  have hD : Drew wd g (wd.alloc (.cells #[.string ⟨#[101, 110]⟩, .string ⟨#[100, 101]⟩, .string ⟨#[102, 114]⟩, .string ⟨#[108, 97, 116]⟩] 9)) := Drew.of_ext hb.out.1.1 ((Ext.refl _).alloc _)
                                  have h2 := Lib.hid (And.intro (Box.new wd #[.string ⟨#[101, 110]⟩, .string ⟨#[100, 101]⟩, .string ⟨#[102, 114]⟩, .string ⟨#[108, 97, 116]⟩] 9) (show wd.heap.size ≠ g ∧ w.heap.size < wd.heap.size from ⟨Nat.ne_of_gt hb.out.1.1.lt, hb.out.2.lt⟩))
                                  generalize wd.alloc (.cells #[.string ⟨#[101, 110]⟩, .string ⟨#[100, 101]⟩, .string ⟨#[102, 114]⟩, .string ⟨#[108, 97, 116]⟩] 9) = we at hD h2 ⊢
                                  generalize wd.heap.size = b2 at h2 ⊢
                                  try simp only [Act.put, List.setIfInBounds_toArray, List.set_cons_zero, List.set_cons_succ]
                                  have q_hb := Lib.hid (And.intro (hb.out.1.trans hD) (hb.out.2.drew hD hwg))
                                  have q_hs := Lib.hid (hs.out)
                                  have q_h13 := Lib.hid (And.intro (h13.out.1.drew hD h13.out.2.1) h13.out.2)
                                  clear hD hb hs h13
                                  clear wd
                                  revert q_h13; revert h2; revert q_hs; revert q_hb; revert we; revert b13; revert b2; revert s
                                  exact key18
                                · skip
                                  go_simp
                                  refine (l01Next_any _ _ _ hb.out.1.1 (by decide)).mono ?_
                                  rintro e we ⟨y0, rfl, hy0, hy1, hD0⟩
                                  obtain ⟨y, rfl, hyn⟩ := pick_nat 4 rfl (by decide) hy0 hy1
                                  have hy := Lib.hid hyn
                                  have hD := hD0.drew
                                  clear hy0 hy1 hD0 hyn
                                  go_wp2_with fail
                                  try simp only [Act.put, List.setIfInBounds_toArray, List.set_cons_zero, List.set_cons_succ]
                                  have q_hb := Lib.hid (And.intro (hb.out.1.trans hD) (hb.out.2.drew hD hwg))
                                  have q_hs := Lib.hid (hs.out)
                                  have q_h13 := Lib.hid (And.intro (h13.out.1.drew hD h13.out.2.1) h13.out.2)
                                  clear hD hb hs h13
                                  clear wd
                                  revert q_h13; revert hy; revert q_hs; revert q_hb; revert we; revert b13; revert y; revert s
                                  exact key26
                                · skip
                                  go_simp
                                  refine hK _ _ ?_
                                  clear hK K
                                  have hD : Drew wd g (wd.alloc (.cells #[.int .i64 0, .int .i64 0, .int .i64 1, .int .i64 2] 2)) := Drew.of_ext hb.out.1.1 ((Ext.refl _).alloc _)
                                  have h8 := Lib.hid (And.intro (Box.new wd #[.int .i64 0, .int .i64 0, .int .i64 1, .int .i64 2] 2) (show wd.heap.size ≠ g ∧ w.heap.size < wd.heap.size from ⟨Nat.ne_of_gt hb.out.1.1.lt, hb.out.2.lt⟩))
                                  generalize wd.alloc (.cells #[.int .i64 0, .int .i64 0, .int .i64 1, .int .i64 2] 2) = we at hD h8 ⊢
                                  generalize wd.heap.size = b8 at h8 ⊢
                                  try simp only [Act.put, List.setIfInBounds_toArray, List.set_cons_zero, List.set_cons_succ]
                                  have q_hb := Lib.hid (And.intro (hb.out.1.trans hD) (hb.out.2.drew hD hwg))
                                  have q_hs := Lib.hid (hs.out)
                                  have q_h13 := Lib.hid (And.intro (h13.out.1.drew hD h13.out.2.1) h13.out.2)
                                  clear hD hb hs h13
                                  clear wd
                                  revert q_h13; revert h8; revert q_hs; revert q_hb; revert we; revert b13; revert b8; revert s
                                  exact key28
                               intro s b8 wd hb hs h8
                               refine wpAny_ready (rs := [2, 4, 13]) (by kernel_rfl) (by simp) ?_
                               refine AllReady.cons rfl (fun K hK => ?_) (AllReady.cons rfl (fun K hK => ?_) (AllReady.cons rfl (fun K hK => ?_) AllReady.nil))
                               · skip
                                 go_simp
                                 refine hK _ _ ?_
                                 clear hK K
                                 have hD : Drew wd g (wd.alloc (.cells #[.string ⟨#[101, 110]⟩, .string ⟨#[100, 101]⟩, .string ⟨#[102, 114]⟩, .string ⟨#[108, 97, 116]⟩] 9)) := Drew.of_ext hb.out.1.1 ((Ext.refl _).alloc _)
                                 have h2 := Lib.hid (And.intro (Box.new wd #[.string ⟨#[101, 110]⟩, .string ⟨#[100, 101]⟩, .string ⟨#[102, 114]⟩, .string ⟨#[108, 97, 116]⟩] 9) (show wd.heap.size ≠ g ∧ w.heap.size < wd.heap.size from ⟨Nat.ne_of_gt hb.out.1.1.lt, hb.out.2.lt⟩))
                                 generalize wd.alloc (.cells #[.string ⟨#[101, 110]⟩, .string ⟨#[100, 101]⟩, .string ⟨#[102, 114]⟩, .string ⟨#[108, 97, 116]⟩] 9) = we at hD h2 ⊢
                                 generalize wd.heap.size = b2 at h2 ⊢
                                 try simp only [Act.put, List.setIfInBounds_toArray, List.set_cons_zero, List.set_cons_succ]
                                 have q_hb := Lib.hid (And.intro (hb.out.1.trans hD) (hb.out.2.drew hD hwg))
                                 have q_hs := Lib.hid (hs.out)
                                 have q_h8 := Lib.hid (And.intro (h8.out.1.drew hD h8.out.2.1) h8.out.2)
                                 clear hD hb hs h8
                                 clear wd
                                 revert q_h8; revert h2; revert q_hs; revert q_hb; revert we; revert b8; revert b2; revert s
                                 exact key17
                               · skip
                                 go_simp
                                 refine (l01Next_any _ _ _ hb.out.1.1 (by decide)).mono ?_
                                 rintro e we ⟨y0, rfl, hy0, hy1, hD0⟩
                                 obtain ⟨y, rfl, hyn⟩ := pick_nat 4 rfl (by decide) hy0 hy1
                                 have hy := Lib.hid hyn
                                 have hD := hD0.drew
                                 clear hy0 hy1 hD0 hyn
                                 go_wp2_with fail
                                 try simp only [Act.put, List.setIfInBounds_toArray, List.set_cons_zero, List.set_cons_succ]
                                 have q_hb := Lib.hid (And.intro (hb.out.1.trans hD) (hb.out.2.drew hD hwg))
                                 have q_hs := Lib.hid (hs.out)
                                 have q_h8 := Lib.hid (And.intro (h8.out.1.drew hD h8.out.2.1) h8.out.2)
                                 clear hD hb hs h8
                                 clear wd
                                 revert q_h8; revert hy; revert q_hs; revert q_hb; revert we; revert b8; revert y; revert s
                                 exact key25
                               · skip
                                 go_simp
                                 refine hK _ _ ?_
                                 clear hK K
                                 have hD : Drew wd g (wd.alloc (.cells #[.string ⟨#[]⟩, .string ⟨#[]⟩, .int .i64 0, .int .i64 0, .int .i64 0] 69)) := Drew.of_ext hb.out.1.1 ((Ext.refl _).alloc _)
                                 have h13 := Lib.hid (And.intro (Box.new wd #[.string ⟨#[]⟩, .string ⟨#[]⟩, .int .i64 0, .int .i64 0, .int .i64 0] 69) (show wd.heap.size ≠ g ∧ w.heap.size < wd.heap.size from ⟨Nat.ne_of_gt hb.out.1.1.lt, hb.out.2.lt⟩))
                                 generalize wd.alloc (.cells #[.string ⟨#[]⟩, .string ⟨#[]⟩, .int .i64 0, .int .i64 0, .int .i64 0] 69) = we at hD h13 ⊢
                                 generalize wd.heap.size = b13 at h13 ⊢
                                 try simp only [Act.put, List.setIfInBounds_toArray, List.set_cons_zero, List.set_cons_succ]
                                 have q_hb := Lib.hid (And.intro (hb.out.1.trans hD) (hb.out.2.drew hD hwg))
                                 have q_hs := Lib.hid (hs.out)
                                 have q_h8 := Lib.hid (And.intro (h8.out.1.drew hD h8.out.2.1) h8.out.2)
                                 clear hD hb hs h8
                                 clear wd
                                 revert h13; revert q_h8; revert q_hs; revert q_hb; revert we; revert b13; revert b8; revert s
                                 exact key28
                              intro s b8 b13 wd hb hs h8 h13
                              refine wpAny_ready (rs := [2, 4]) (by kernel_rfl) (by simp) ?_
                              refine AllReady.cons rfl (fun K hK => ?_) (AllReady.cons rfl (fun K hK => ?_) AllReady.nil)
                              · skip
                                go_simp
                                refine hK _ _ ?_
                                clear hK K
                                have hD : Drew wd g (wd.alloc (.cells #[.string ⟨#[101, 110]⟩, .string ⟨#[100, 101]⟩, .string ⟨#[102, 114]⟩, .string ⟨#[108, 97, 116]⟩] 9)) := Drew.of_ext hb.out.1.1 ((Ext.refl _).alloc _)
                                have h2 := Lib.hid (And.intro (Box.new wd #[.string ⟨#[101, 110]⟩, .string ⟨#[100, 101]⟩, .string ⟨#[102, 114]⟩, .string ⟨#[108, 97, 116]⟩] 9) (show wd.heap.size ≠ g ∧ w.heap.size < wd.heap.size from ⟨Nat.ne_of_gt hb.out.1.1.lt, hb.out.2.lt⟩))
                                generalize wd.alloc (.cells #[.string ⟨#[101, 110]⟩, .string ⟨#[100, 101]⟩, .string ⟨#[102, 114]⟩, .string ⟨#[108, 97, 116]⟩] 9) = we at hD h2 ⊢
                                generalize wd.heap.size = b2 at h2 ⊢
                                try simp only [Act.put, List.setIfInBounds_toArray, List.set_cons_zero, List.set_cons_succ]
                                have q_hb := Lib.hid (And.intro (hb.out.1.trans hD) (hb.out.2.drew hD hwg))
                                have q_hs := Lib.hid (hs.out)
                                have q_h8 := Lib.hid (And.intro (h8.out.1.drew hD h8.out.2.1) h8.out.2)
                                have q_h13 := Lib.hid (And.intro (h13.out.1.drew hD h13.out.2.1) h13.out.2)
                                clear hD hb hs h8 h13
                                clear wd
                                revert q_h13; revert q_h8; revert h2; revert q_hs; revert q_hb; revert we; revert b13; revert b8; revert b2; revert s
                                exact key16
                              · skip
                                go_simp
                                refine (l01Next_any _ _ _ hb.out.1.1 (by decide)).mono ?_
                                rintro e we ⟨y0, rfl, hy0, hy1, hD0⟩
                                obtain ⟨y, rfl, hyn⟩ := pick_nat 4 rfl (by decide) hy0 hy1
                                have hy := Lib.hid hyn
                                have hD := hD0.drew
                                clear hy0 hy1 hD0 hyn
                                go_wp2_with fail
                                try simp only [Act.put, List.setIfInBounds_toArray, List.set_cons_zero, List.set_cons_succ]
                                have q_hb := Lib.hid (And.intro (hb.out.1.trans hD) (hb.out.2.drew hD hwg))
                                have q_hs := Lib.hid (hs.out)
                                have q_h8 := Lib.hid (And.intro (h8.out.1.drew hD h8.out.2.1) h8.out.2)
                                have q_h13 := Lib.hid (And.intro (h13.out.1.drew hD h13.out.2.1) h13.out.2)
                                clear hD hb hs h8 h13
                                clear wd
                                revert q_h13; revert q_h8; revert hy; revert q_hs; revert q_hb; revert we; revert b13; revert b8; revert y; revert s
                                exact key24
                             intro s y wd hb hs hy
                             refine wpAny_ready (rs := [2, 8, 13]) (by kernel_rfl) (by simp) ?_
                             refine AllReady.cons rfl (fun K hK => ?_) (AllReady.cons rfl (fun K hK => ?_) (AllReady.cons rfl (fun K hK => ?_) AllReady.nil))
                             · skip
                               go_simp
                               refine hK _ _ ?_
                               clear hK K
                               have hD : Drew wd g (wd.alloc (.cells #[.string ⟨#[101, 110]⟩, .string ⟨#[100, 101]⟩, .string ⟨#[102, 114]⟩, .string ⟨#[108, 97, 116]⟩] 9)) := Drew.of_ext hb.out.1.1 ((Ext.refl _).alloc _)
                               have h2 := Lib.hid (And.intro (Box.new wd #[.string ⟨#[101, 110]⟩, .string ⟨#[100, 101]⟩, .string ⟨#[102, 114]⟩, .string ⟨#[108, 97, 116]⟩] 9) (show wd.heap.size ≠ g ∧ w.heap.size < wd.heap.size from ⟨Nat.ne_of_gt hb.out.1.1.lt, hb.out.2.lt⟩))
                               generalize wd.alloc (.cells #[.string ⟨#[101, 110]⟩, .string ⟨#[100, 101]⟩, .string ⟨#[102, 114]⟩, .string ⟨#[108, 97, 116]⟩] 9) = we at hD h2 ⊢
                               generalize wd.heap.size = b2 at h2 ⊢
                               try simp only [Act.put, List.setIfInBounds_toArray, List.set_cons_zero, List.set_cons_succ]
                               have q_hb := Lib.hid (And.intro (hb.out.1.trans hD) (hb.out.2.drew hD hwg))
                               have q_hs := Lib.hid (hs.out)
                               have q_hy := Lib.hid (hy.out)
                               clear hD hb hs hy
                               clear wd
                               have hyi := (show (y : Int) < 4 from Int.ofNat_lt.2 q_hy.out)
                               refine takeYes 5 9 ?v5 rfl rfl (by kernel_rfl) (by kernel_rfl) (by kernel_rfl) (fun _ _ _ _ h => h) (by kernel_rfl) ?y5 ?r5
                               case y5 => intro w; go_simp; first | done | with_reducible rfl
                               simp only [Act.put, List.setIfInBounds_toArray, List.set_cons_zero, List.set_cons_succ]
                               clear hyi
                               revert q_hy; revert h2; revert q_hs; revert q_hb; revert we; revert y; revert b2; revert s
                               exact key15
                             · skip
                               go_simp
                               refine hK _ _ ?_
                               clear hK K
                               have hD : Drew wd g (wd.alloc (.cells #[.int .i64 0, .int .i64 0, .int .i64 1, .int .i64 2] 2)) := Drew.of_ext hb.out.1.1 ((Ext.refl _).alloc _)
                               have h8 := Lib.hid (And.intro (Box.new wd #[.int .i64 0, .int .i64 0, .int .i64 1, .int .i64 2] 2) (show wd.heap.size ≠ g ∧ w.heap.size < wd.heap.size from ⟨Nat.ne_of_gt hb.out.1.1.lt, hb.out.2.lt⟩))
                               generalize wd.alloc (.cells #[.int .i64 0, .int .i64 0, .int .i64 1, .int .i64 2] 2) = we at hD h8 ⊢
                               generalize wd.heap.size = b8 at h8 ⊢
                               try simp only [Act.put, List.setIfInBounds_toArray, List.set_cons_zero, List.set_cons_succ]
                               have q_hb := Lib.hid (And.intro (hb.out.1.trans hD) (hb.out.2.drew hD hwg))
                               have q_hs := Lib.hid (hs.out)
                               have q_hy := Lib.hid (hy.out)
                               clear hD hb hs hy
                               clear wd
                               revert h8; revert q_hy; revert q_hs; revert q_hb; revert we; revert b8; revert y; revert s
                               exact key25
                             · skip
                               go_simp
                               refine hK _ _ ?_
                               clear hK K
                               have hD : Drew wd g (wd.alloc (.cells #[.string ⟨#[]⟩, .string ⟨#[]⟩, .int .i64 0, .int .i64 0, .int .i64 0] 69)) := Drew.of_ext hb.out.1.1 ((Ext.refl _).alloc _)
                               have h13 := Lib.hid (And.intro (Box.new wd #[.string ⟨#[]⟩, .string ⟨#[]⟩, .int .i64 0, .int .i64 0, .int .i64 0] 69) (show wd.heap.size ≠ g ∧ w.heap.size < wd.heap.size from ⟨Nat.ne_of_gt hb.out.1.1.lt, hb.out.2.lt⟩))
                               generalize wd.alloc (.cells #[.string ⟨#[]⟩, .string ⟨#[]⟩, .int .i64 0, .int .i64 0, .int .i64 0] 69) = we at hD h13 ⊢
                               generalize wd.heap.size = b13 at h13 ⊢
                               try simp only [Act.put, List.setIfInBounds_toArray, List.set_cons_zero, List.set_cons_succ]
                               have q_hb := Lib.hid (And.intro (hb.out.1.trans hD) (hb.out.2.drew hD hwg))
                               have q_hs := Lib.hid (hs.out)
                               have q_hy := Lib.hid (hy.out)
                               clear hD hb hs hy
                               clear wd
                               revert h13; revert q_hy; revert q_hs; revert q_hb; revert we; revert b13; revert y; revert s
                               exact key26
                            intro s y b13 wd hb hs hy h13
                            refine wpAny_ready (rs := [2, 8]) (by kernel_rfl) (by simp) ?_
                            refine AllReady.cons rfl (fun K hK => ?_) (AllReady.cons rfl (fun K hK => ?_) AllReady.nil)
                            · skip
                              go_simp
                              refine hK _ _ ?_
                              clear hK K
                              have hD : Drew wd g (wd.alloc (.cells #[.string ⟨#[101, 110]⟩, .string ⟨#[100, 101]⟩, .string ⟨#[102, 114]⟩, .string ⟨#[108, 97, 116]⟩] 9)) := Drew.of_ext hb.out.1.1 ((Ext.refl _).alloc _)
                              have h2 := Lib.hid (And.intro (Box.new wd #[.string ⟨#[101, 110]⟩, .string ⟨#[100, 101]⟩, .string ⟨#[102, 114]⟩, .string ⟨#[108, 97, 116]⟩] 9) (show wd.heap.size ≠ g ∧ w.heap.size < wd.heap.size from ⟨Nat.ne_of_gt hb.out.1.1.lt, hb.out.2.lt⟩))
                              generalize wd.alloc (.cells #[.string ⟨#[101, 110]⟩, .string ⟨#[100, 101]⟩, .string ⟨#[102, 114]⟩, .string ⟨#[108, 97, 116]⟩] 9) = we at hD h2 ⊢
                              generalize wd.heap.size = b2 at h2 ⊢
                              try simp only [Act.put, List.setIfInBounds_toArray, List.set_cons_zero, List.set_cons_succ]
                              have q_hb := Lib.hid (And.intro (hb.out.1.trans hD) (hb.out.2.drew hD hwg))
                              have q_hs := Lib.hid (hs.out)
                              have q_hy := Lib.hid (hy.out)
                              have q_h13 := Lib.hid (And.intro (h13.out.1.drew hD h13.out.2.1) h13.out.2)
                              clear hD hb hs hy h13
                              clear wd
                              have hyi := (show (y : Int) < 4 from Int.ofNat_lt.2 q_hy.out)
                              refine takeYes 5 9 ?v6 rfl rfl (by kernel_rfl) (by kernel_rfl) (by kernel_rfl) (fun _ _ _ _ h => h) (by kernel_rfl) ?y6 ?r6
                              case y6 => intro w; go_simp; first | done | with_reducible rfl
                              simp only [Act.put, List.setIfInBounds_toArray, List.set_cons_zero, List.set_cons_succ]
                              clear hyi
                              revert q_h13; revert q_hy; revert h2; revert q_hs; revert q_hb; revert we; revert b13; revert y; revert b2; revert s
                              exact key14
                            · skip
                              go_simp
                              refine hK _ _ ?_
                              clear hK K
                              have hD : Drew wd g (wd.alloc (.cells #[.int .i64 0, .int .i64 0, .int .i64 1, .int .i64 2] 2)) := Drew.of_ext hb.out.1.1 ((Ext.refl _).alloc _)
                              have h8 := Lib.hid (And.intro (Box.new wd #[.int .i64 0, .int .i64 0, .int .i64 1, .int .i64 2] 2) (show wd.heap.size ≠ g ∧ w.heap.size < wd.heap.size from ⟨Nat.ne_of_gt hb.out.1.1.lt, hb.out.2.lt⟩))
                              generalize wd.alloc (.cells #[.int .i64 0, .int .i64 0, .int .i64 1, .int .i64 2] 2) = we at hD h8 ⊢
                              generalize wd.heap.size = b8 at h8 ⊢
                              try simp only [Act.put, List.setIfInBounds_toArray, List.set_cons_zero, List.set_cons_succ]
                              have q_hb := Lib.hid (And.intro (hb.out.1.trans hD) (hb.out.2.drew hD hwg))
                              have q_hs := Lib.hid (hs.out)
                              have q_hy := Lib.hid (hy.out)
                              have q_h13 := Lib.hid (And.intro (h13.out.1.drew hD h13.out.2.1) h13.out.2)
                              clear hD hb hs hy h13
                              clear wd
                              revert q_h13; revert h8; revert q_hy; revert q_hs; revert q_hb; revert we; revert b13; revert b8; revert y; revert s
                              exact key24
                           intro s y b8 wd hb hs hy h8
                           refine wpAny_ready (rs := [2, 9, 13]) (by kernel_rfl) (by simp) ?_
                           refine AllReady.cons rfl (fun K hK => ?_) (AllReady.cons rfl (fun K hK => ?_) (AllReady.cons rfl (fun K hK => ?_) AllReady.nil))
                           · skip
                             go_simp
                             refine hK _ _ ?_
                             clear hK K
                             have hD : Drew wd g (wd.alloc (.cells #[.string ⟨#[101, 110]⟩, .string ⟨#[100, 101]⟩, .string ⟨#[102, 114]⟩, .string ⟨#[108, 97, 116]⟩] 9)) := Drew.of_ext hb.out.1.1 ((Ext.refl _).alloc _)
                             have h2 := Lib.hid (And.intro (Box.new wd #[.string ⟨#[101, 110]⟩, .string ⟨#[100, 101]⟩, .string ⟨#[102, 114]⟩, .string ⟨#[108, 97, 116]⟩] 9) (show wd.heap.size ≠ g ∧ w.heap.size < wd.heap.size from ⟨Nat.ne_of_gt hb.out.1.1.lt, hb.out.2.lt⟩))
                             generalize wd.alloc (.cells #[.string ⟨#[101, 110]⟩, .string ⟨#[100, 101]⟩, .string ⟨#[102, 114]⟩, .string ⟨#[108, 97, 116]⟩] 9) = we at hD h2 ⊢
                             generalize wd.heap.size = b2 at h2 ⊢
                             try simp only [Act.put, List.setIfInBounds_toArray, List.set_cons_zero, List.set_cons_succ]
                             have q_hb := Lib.hid (And.intro (hb.out.1.trans hD) (hb.out.2.drew hD hwg))
                             have q_hs := Lib.hid (hs.out)
                             have q_hy := Lib.hid (hy.out)
                             have q_h8 := Lib.hid (And.intro (h8.out.1.drew hD h8.out.2.1) h8.out.2)
                             clear hD hb hs hy h8
                             clear wd
                             have hyi := (show (y : Int) < 4 from Int.ofNat_lt.2 q_hy.out)
                             refine takeYes 5 9 ?v7 rfl rfl (by kernel_rfl) (by kernel_rfl) (by kernel_rfl) (fun _ _ _ _ h => h) (by kernel_rfl) ?y7 ?r7
                             case y7 => intro w; go_simp; first | done | with_reducible rfl
                             simp only [Act.put, List.setIfInBounds_toArray, List.set_cons_zero, List.set_cons_succ]
                             clear hyi
                             revert q_h8; revert q_hy; revert h2; revert q_hs; revert q_hb; revert we; revert b8; revert y; revert b2; revert s
                             exact key13
                           · skip
                             go_simp
                             refine (l01Pick_any _ _ _ _ _ _ hb.out.1.1 (RdI.of_box h8.out.1 [0, 0, 1, 2] rfl (by simp)) (by simp) (by rintro ad e; cases e; exact h8.out.2.1)).mono ?_
                             rintro e we ⟨p, rfl, hp, hD0⟩
                             have hD := hD0.drew
                             clear hp hD0
                             go_wp2_with fail
                             try simp only [Act.put, List.setIfInBounds_toArray, List.set_cons_zero, List.set_cons_succ]
                             have q_hb := Lib.hid (And.intro (hb.out.1.trans hD) (hb.out.2.drew hD hwg))
                             have q_hs := Lib.hid (hs.out)
                             have q_hy := Lib.hid (hy.out)
                             clear hD hb hs hy h8
                             clear wd
                             revert q_hy; revert q_hs; revert q_hb; revert we; revert p; revert b8; revert y; revert s
                             exact key23
                           · skip
                             go_simp
                             refine hK _ _ ?_
                             clear hK K
                             have hD : Drew wd g (wd.alloc (.cells #[.string ⟨#[]⟩, .string ⟨#[]⟩, .int .i64 0, .int .i64 0, .int .i64 0] 69)) := Drew.of_ext hb.out.1.1 ((Ext.refl _).alloc _)
                             have h13 := Lib.hid (And.intro (Box.new wd #[.string ⟨#[]⟩, .string ⟨#[]⟩, .int .i64 0, .int .i64 0, .int .i64 0] 69) (show wd.heap.size ≠ g ∧ w.heap.size < wd.heap.size from ⟨Nat.ne_of_gt hb.out.1.1.lt, hb.out.2.lt⟩))
                             generalize wd.alloc (.cells #[.string ⟨#[]⟩, .string ⟨#[]⟩, .int .i64 0, .int .i64 0, .int .i64 0] 69) = we at hD h13 ⊢
                             generalize wd.heap.size = b13 at h13 ⊢
                             try simp only [Act.put, List.setIfInBounds_toArray, List.set_cons_zero, List.set_cons_succ]
                             have q_hb := Lib.hid (And.intro (hb.out.1.trans hD) (hb.out.2.drew hD hwg))
                             have q_hs := Lib.hid (hs.out)
                             have q_hy := Lib.hid (hy.out)
                             have q_h8 := Lib.hid (And.intro (h8.out.1.drew hD h8.out.2.1) h8.out.2)
                             clear hD hb hs hy h8
                             clear wd
                             revert h13; revert q_h8; revert q_hy; revert q_hs; revert q_hb; revert we; revert b13; revert b8; revert y; revert s
                             exact key24
                          intro s y b8 b13 wd hb hs hy h8 h13
                          refine wpAny_ready (rs := [2, 9]) (by kernel_rfl) (by simp) ?_
                          refine AllReady.cons rfl (fun K hK => ?_) (AllReady.cons rfl (fun K hK => ?_) AllReady.nil)
                          · skip
                            go_simp
                            refine hK _ _ ?_
                            clear hK K
                            have hD : Drew wd g (wd.alloc (.cells #[.string ⟨#[101, 110]⟩, .string ⟨#[100, 101]⟩, .string ⟨#[102, 114]⟩, .string ⟨#[108, 97, 116]⟩] 9)) := Drew.of_ext hb.out.1.1 ((Ext.refl _).alloc _)
                            have h2 := Lib.hid (And.intro (Box.new wd #[.string ⟨#[101, 110]⟩, .string ⟨#[100, 101]⟩, .string ⟨#[102, 114]⟩, .string ⟨#[108, 97, 116]⟩] 9) (show wd.heap.size ≠ g ∧ w.heap.size < wd.heap.size from ⟨Nat.ne_of_gt hb.out.1.1.lt, hb.out.2.lt⟩))
                            generalize wd.alloc (.cells #[.string ⟨#[101, 110]⟩, .string ⟨#[100, 101]⟩, .string ⟨#[102, 114]⟩, .string ⟨#[108, 97, 116]⟩] 9) = we at hD h2 ⊢
                            generalize wd.heap.size = b2 at h2 ⊢
                            try simp only [Act.put, List.setIfInBounds_toArray, List.set_cons_zero, List.set_cons_succ]
                            have q_hb := Lib.hid (And.intro (hb.out.1.trans hD) (hb.out.2.drew hD hwg))
                            have q_hs := Lib.hid (hs.out)
                            have q_hy := Lib.hid (hy.out)
                            have q_h8 := Lib.hid (And.intro (h8.out.1.drew hD h8.out.2.1) h8.out.2)
                            have q_h13 := Lib.hid (And.intro (h13.out.1.drew hD h13.out.2.1) h13.out.2)
                            clear hD hb hs hy h8 h13
                            clear wd
                            have hyi := (show (y : Int) < 4 from Int.ofNat_lt.2 q_hy.out)
                            refine takeYes 5 9 ?v8 rfl rfl (by kernel_rfl) (by kernel_rfl) (by kernel_rfl) (fun _ _ _ _ h => h) (by kernel_rfl) ?y8 ?r8
                            case y8 => intro w; go_simp; first | done | with_reducible rfl
                            simp only [Act.put, List.setIfInBounds_toArray, List.set_cons_zero, List.set_cons_succ]
                            clear hyi
                            revert q_h13; revert q_h8; revert q_hy; revert h2; revert q_hs; revert q_hb; revert we; revert b13; revert b8; revert y; revert b2; revert s
                            exact key12
                          · skip
                            go_simp
                            refine (l01Pick_any _ _ _ _ _ _ hb.out.1.1 (RdI.of_box h8.out.1 [0, 0, 1, 2] rfl (by simp)) (by simp) (by rintro ad e; cases e; exact h8.out.2.1)).mono ?_
                            rintro e we ⟨p, rfl, hp, hD0⟩
                            have hD := hD0.drew
                            clear hp hD0
                            go_wp2_with fail
                            try simp only [Act.put, List.setIfInBounds_toArray, List.set_cons_zero, List.set_cons_succ]
                            have q_hb := Lib.hid (And.intro (hb.out.1.trans hD) (hb.out.2.drew hD hwg))
                            have q_hs := Lib.hid (hs.out)
                            have q_hy := Lib.hid (hy.out)
                            have q_h13 := Lib.hid (And.intro (h13.out.1.drew hD h13.out.2.1) h13.out.2)
                            clear hD hb hs hy h8 h13
                            clear wd
                            revert q_h13; revert q_hy; revert q_hs; revert q_hb; revert we; revert b13; revert p; revert b8; revert y; revert s
                            exact key22
                         intro s y b8 p wd hb hs hy
                         refine wpAny_ready (rs := [2, 11, 13]) (by kernel_rfl) (by simp) ?_
                         refine AllReady.cons rfl (fun K hK => ?_) (AllReady.cons rfl (fun K hK => ?_) (AllReady.cons rfl (fun K hK => ?_) AllReady.nil))
                         · skip
                           go_simp
                           refine hK _ _ ?_
                           clear hK K
                           have hD : Drew wd g (wd.alloc (.cells #[.string ⟨#[101, 110]⟩, .string ⟨#[100, 101]⟩, .string ⟨#[102, 114]⟩, .string ⟨#[108, 97, 116]⟩] 9)) := Drew.of_ext hb.out.1.1 ((Ext.refl _).alloc _)
                           have h2 := Lib.hid (And.intro (Box.new wd #[.string ⟨#[101, 110]⟩, .string ⟨#[100, 101]⟩, .string ⟨#[102, 114]⟩, .string ⟨#[108, 97, 116]⟩] 9) (show wd.heap.size ≠ g ∧ w.heap.size < wd.heap.size from ⟨Nat.ne_of_gt hb.out.1.1.lt, hb.out.2.lt⟩))
                           generalize wd.alloc (.cells #[.string ⟨#[101, 110]⟩, .string ⟨#[100, 101]⟩, .string ⟨#[102, 114]⟩, .string ⟨#[108, 97, 116]⟩] 9) = we at hD h2 ⊢
                           generalize wd.heap.size = b2 at h2 ⊢
                           try simp only [Act.put, List.setIfInBounds_toArray, List.set_cons_zero, List.set_cons_succ]
                           have q_hb := Lib.hid (And.intro (hb.out.1.trans hD) (hb.out.2.drew hD hwg))
                           have q_hs := Lib.hid (hs.out)
                           have q_hy := Lib.hid (hy.out)
                           clear hD hb hs hy
                           clear wd
                           have hyi := (show (y : Int) < 4 from Int.ofNat_lt.2 q_hy.out)
                           refine takeYes 5 9 ?v9 rfl rfl (by kernel_rfl) (by kernel_rfl) (by kernel_rfl) (fun _ _ _ _ h => h) (by kernel_rfl) ?y9 ?r9
                           case y9 => intro w; go_simp; first | done | with_reducible rfl
                           simp only [Act.put, List.setIfInBounds_toArray, List.set_cons_zero, List.set_cons_succ]
                           clear hyi
                           revert q_hy; revert h2; revert q_hs; revert q_hb; revert we; revert p; revert b8; revert y; revert b2; revert s
                           exact key11
                         · skip
                           go_simp
                           refine (l02Good_any _ _ hb.out.1.1).mono ?_
                           rintro e we ⟨⟨q0, q1⟩, rfl, hq, hD⟩
                           rw [valSpan]
                           simp only
                           clear hq
                           go_wp2_with fail
                           try simp only [Act.put, List.setIfInBounds_toArray, List.set_cons_zero, List.set_cons_succ]
                           have q_hb := Lib.hid (And.intro (hb.out.1.trans hD) (hb.out.2.drew hD hwg))
                           have q_hs := Lib.hid (hs.out)
                           have q_hy := Lib.hid (hy.out)
                           clear hD hb hs hy
                           clear wd
                           revert q_hy; revert q_hs; revert q_hb; revert we; revert q1; revert q0; revert p; revert b8; revert y; revert s
                           exact key21
                         · skip
                           go_simp
                           refine hK _ _ ?_
                           clear hK K
                           have hD : Drew wd g (wd.alloc (.cells #[.string ⟨#[]⟩, .string ⟨#[]⟩, .int .i64 0, .int .i64 0, .int .i64 0] 69)) := Drew.of_ext hb.out.1.1 ((Ext.refl _).alloc _)
                           have h13 := Lib.hid (And.intro (Box.new wd #[.string ⟨#[]⟩, .string ⟨#[]⟩, .int .i64 0, .int .i64 0, .int .i64 0] 69) (show wd.heap.size ≠ g ∧ w.heap.size < wd.heap.size from ⟨Nat.ne_of_gt hb.out.1.1.lt, hb.out.2.lt⟩))
                           generalize wd.alloc (.cells #[.string ⟨#[]⟩, .string ⟨#[]⟩, .int .i64 0, .int .i64 0, .int .i64 0] 69) = we at hD h13 ⊢
                           generalize wd.heap.size = b13 at h13 ⊢
                           try simp only [Act.put, List.setIfInBounds_toArray, List.set_cons_zero, List.set_cons_succ]
                           have q_hb := Lib.hid (And.intro (hb.out.1.trans hD) (hb.out.2.drew hD hwg))
                           have q_hs := Lib.hid (hs.out)
                           have q_hy := Lib.hid (hy.out)
                           clear hD hb hs hy
                           clear wd
                           revert h13; revert q_hy; revert q_hs; revert q_hb; revert we; revert b13; revert p; revert b8; revert y; revert s
                           exact key22
                        intro s y b8 p b13 wd hb hs hy h13
                        refine wpAny_ready (rs := [2, 11]) (by kernel_rfl) (by simp) ?_
                        refine AllReady.cons rfl (fun K hK => ?_) (AllReady.cons rfl (fun K hK => ?_) AllReady.nil)
                        · skip
                          go_simp
                          refine hK _ _ ?_
                          clear hK K
                          have hD : Drew wd g (wd.alloc (.cells #[.string ⟨#[101, 110]⟩, .string ⟨#[100, 101]⟩, .string ⟨#[102, 114]⟩, .string ⟨#[108, 97, 116]⟩] 9)) := Drew.of_ext hb.out.1.1 ((Ext.refl _).alloc _)
                          have h2 := Lib.hid (And.intro (Box.new wd #[.string ⟨#[101, 110]⟩, .string ⟨#[100, 101]⟩, .string ⟨#[102, 114]⟩, .string ⟨#[108, 97, 116]⟩] 9) (show wd.heap.size ≠ g ∧ w.heap.size < wd.heap.size from ⟨Nat.ne_of_gt hb.out.1.1.lt, hb.out.2.lt⟩))
                          generalize wd.alloc (.cells #[.string ⟨#[101, 110]⟩, .string ⟨#[100, 101]⟩, .string ⟨#[102, 114]⟩, .string ⟨#[108, 97, 116]⟩] 9) = we at hD h2 ⊢
                          generalize wd.heap.size = b2 at h2 ⊢
                          try simp only [Act.put, List.setIfInBounds_toArray, List.set_cons_zero, List.set_cons_succ]
                          have q_hb := Lib.hid (And.intro (hb.out.1.trans hD) (hb.out.2.drew hD hwg))
                          have q_hs := Lib.hid (hs.out)
                          have q_hy := Lib.hid (hy.out)
                          have q_h13 := Lib.hid (And.intro (h13.out.1.drew hD h13.out.2.1) h13.out.2)
                          clear hD hb hs hy h13
                          clear wd
                          have hyi := (show (y : Int) < 4 from Int.ofNat_lt.2 q_hy.out)
                          refine takeYes 5 9 ?v10 rfl rfl (by kernel_rfl) (by kernel_rfl) (by kernel_rfl) (fun _ _ _ _ h => h) (by kernel_rfl) ?y10 ?r10
                          case y10 => intro w; go_simp; first | done | with_reducible rfl
                          simp only [Act.put, List.setIfInBounds_toArray, List.set_cons_zero, List.set_cons_succ]
                          clear hyi
                          revert q_h13; revert q_hy; revert h2; revert q_hs; revert q_hb; revert we; revert b13; revert p; revert b8; revert y; revert b2; revert s
                          exact key10
                        · skip
                          go_simp
                          refine (l02Good_any _ _ hb.out.1.1).mono ?_
                          rintro e we ⟨⟨q0, q1⟩, rfl, hq, hD⟩
                          rw [valSpan]
                          simp only
                          clear hq
                          go_wp2_with fail
                          try simp only [Act.put, List.setIfInBounds_toArray, List.set_cons_zero, List.set_cons_succ]
                          have q_hb := Lib.hid (And.intro (hb.out.1.trans hD) (hb.out.2.drew hD hwg))
                          have q_hs := Lib.hid (hs.out)
                          have q_hy := Lib.hid (hy.out)
                          have q_h13 := Lib.hid (And.intro (h13.out.1.drew hD h13.out.2.1) h13.out.2)
                          clear hD hb hs hy h13
                          clear wd
                          revert q_h13; revert q_hy; revert q_hs; revert q_hb; revert we; revert b13; revert q1; revert q0; revert p; revert b8; revert y; revert s
                          exact key20
                       intro s y b8 p q0 q1 wd hb hs hy
                       refine wpAny_ready (rs := [2, 13]) (by kernel_rfl) (by simp) ?_
                       refine AllReady.cons rfl (fun K hK => ?_) (AllReady.cons rfl (fun K hK => ?_) AllReady.nil)
                       · skip
                         go_simp
                         refine hK _ _ ?_
                         clear hK K
                         have hD : Drew wd g (wd.alloc (.cells #[.string ⟨#[101, 110]⟩, .string ⟨#[100, 101]⟩, .string ⟨#[102, 114]⟩, .string ⟨#[108, 97, 116]⟩] 9)) := Drew.of_ext hb.out.1.1 ((Ext.refl _).alloc _)
                         have h2 := Lib.hid (And.intro (Box.new wd #[.string ⟨#[101, 110]⟩, .string ⟨#[100, 101]⟩, .string ⟨#[102, 114]⟩, .string ⟨#[108, 97, 116]⟩] 9) (show wd.heap.size ≠ g ∧ w.heap.size < wd.heap.size from ⟨Nat.ne_of_gt hb.out.1.1.lt, hb.out.2.lt⟩))
                         generalize wd.alloc (.cells #[.string ⟨#[101, 110]⟩, .string ⟨#[100, 101]⟩, .string ⟨#[102, 114]⟩, .string ⟨#[108, 97, 116]⟩] 9) = we at hD h2 ⊢
                         generalize wd.heap.size = b2 at h2 ⊢
                         try simp only [Act.put, List.setIfInBounds_toArray, List.set_cons_zero, List.set_cons_succ]
                         have q_hb := Lib.hid (And.intro (hb.out.1.trans hD) (hb.out.2.drew hD hwg))
                         have q_hs := Lib.hid (hs.out)
                         have q_hy := Lib.hid (hy.out)
                         clear hD hb hs hy
                         clear wd
                         have hyi := (show (y : Int) < 4 from Int.ofNat_lt.2 q_hy.out)
                         refine takeYes 5 9 ?v11 rfl rfl (by kernel_rfl) (by kernel_rfl) (by kernel_rfl) (fun _ _ _ _ h => h) (by kernel_rfl) ?y11 ?r11
                         case y11 => intro w; go_simp; first | done | with_reducible rfl
                         simp only [Act.put, List.setIfInBounds_toArray, List.set_cons_zero, List.set_cons_succ]
                         clear hyi
                         revert q_hy; revert h2; revert q_hs; revert q_hb; revert we; revert q1; revert q0; revert p; revert b8; revert y; revert b2; revert s
                         exact key9
                       · skip
                         go_simp
                         refine hK _ _ ?_
                         clear hK K
                         have hD : Drew wd g (wd.alloc (.cells #[.string ⟨#[]⟩, .string ⟨#[]⟩, .int .i64 0, .int .i64 0, .int .i64 0] 69)) := Drew.of_ext hb.out.1.1 ((Ext.refl _).alloc _)
                         have h13 := Lib.hid (And.intro (Box.new wd #[.string ⟨#[]⟩, .string ⟨#[]⟩, .int .i64 0, .int .i64 0, .int .i64 0] 69) (show wd.heap.size ≠ g ∧ w.heap.size < wd.heap.size from ⟨Nat.ne_of_gt hb.out.1.1.lt, hb.out.2.lt⟩))
                         generalize wd.alloc (.cells #[.string ⟨#[]⟩, .string ⟨#[]⟩, .int .i64 0, .int .i64 0, .int .i64 0] 69) = we at hD h13 ⊢
                         generalize wd.heap.size = b13 at h13 ⊢
                         try simp only [Act.put, List.setIfInBounds_toArray, List.set_cons_zero, List.set_cons_succ]
                         have q_hb := Lib.hid (And.intro (hb.out.1.trans hD) (hb.out.2.drew hD hwg))
                         have q_hs := Lib.hid (hs.out)
                         have q_hy := Lib.hid (hy.out)
                         clear hD hb hs hy
                         clear wd
                         revert h13; revert q_hy; revert q_hs; revert q_hb; revert we; revert b13; revert q1; revert q0; revert p; revert b8; revert y; revert s
                         exact key20
                      intro s y b8 p q0 q1 b13 wd hb hs hy h13
                      refine wpAny_ready (rs := [2]) (by kernel_rfl) (by simp) ?_
                      refine AllReady.cons rfl (fun K hK => ?_) AllReady.nil
                      skip
                      go_simp
                      refine hK _ _ ?_
                      clear hK K
                      have hD : Drew wd g (wd.alloc (.cells #[.string ⟨#[101, 110]⟩, .string ⟨#[100, 101]⟩, .string ⟨#[102, 114]⟩, .string ⟨#[108, 97, 116]⟩] 9)) := Drew.of_ext hb.out.1.1 ((Ext.refl _).alloc _)
                      have h2 := Lib.hid (And.intro (Box.new wd #[.string ⟨#[101, 110]⟩, .string ⟨#[100, 101]⟩, .string ⟨#[102, 114]⟩, .string ⟨#[108, 97, 116]⟩] 9) (show wd.heap.size ≠ g ∧ w.heap.size < wd.heap.size from ⟨Nat.ne_of_gt hb.out.1.1.lt, hb.out.2.lt⟩))
                      generalize wd.alloc (.cells #[.string ⟨#[101, 110]⟩, .string ⟨#[100, 101]⟩, .string ⟨#[102, 114]⟩, .string ⟨#[108, 97, 116]⟩] 9) = we at hD h2 ⊢
                      generalize wd.heap.size = b2 at h2 ⊢
                      try simp only [Act.put, List.setIfInBounds_toArray, List.set_cons_zero, List.set_cons_succ]
                      have q_hb := Lib.hid (And.intro (hb.out.1.trans hD) (hb.out.2.drew hD hwg))
                      have q_hs := Lib.hid (hs.out)
                      have q_hy := Lib.hid (hy.out)
                      have q_h13 := Lib.hid (And.intro (h13.out.1.drew hD h13.out.2.1) h13.out.2)
                      clear hD hb hs hy h13
                      clear wd
                      have hyi := (show (y : Int) < 4 from Int.ofNat_lt.2 q_hy.out)
                      refine takeYes 5 9 ?v12 rfl rfl (by kernel_rfl) (by kernel_rfl) (by kernel_rfl) (fun _ _ _ _ h => h) (by kernel_rfl) ?y12 ?r12
                      case y12 => intro w; go_simp; first | done | with_reducible rfl
                      simp only [Act.put, List.setIfInBounds_toArray, List.set_cons_zero, List.set_cons_succ]
                      clear hyi
                      revert q_h13; revert q_hy; revert h2; revert q_hs; revert q_hb; revert we; revert b13; revert q1; revert q0; revert p; revert b8; revert y; revert b2; revert s
                      exact key8
                     intro s b2 wd hb hs h2
                     refine wpAny_ready (rs := [4, 8, 13]) (by kernel_rfl) (by simp) ?_
                     refine AllReady.cons rfl (fun K hK => ?_) (AllReady.cons rfl (fun K hK => ?_) (AllReady.cons rfl (fun K hK => ?_) AllReady.nil))
                     · skip
                       go_simp
                       refine (l01Next_any _ _ _ hb.out.1.1 (by decide)).mono ?_
                       rintro e we ⟨y0, rfl, hy0, hy1, hD0⟩
                       obtain ⟨y, rfl, hyn⟩ := pick_nat 4 rfl (by decide) hy0 hy1
                       have hy := Lib.hid hyn
                       have hD := hD0.drew
                       clear hy0 hy1 hD0 hyn
                       go_wp2_with fail
                       try simp only [Act.put, List.setIfInBounds_toArray, List.set_cons_zero, List.set_cons_succ]
                       have q_hb := Lib.hid (And.intro (hb.out.1.trans hD) (hb.out.2.drew hD hwg))
                       have q_hs := Lib.hid (hs.out)
                       have q_h2 := Lib.hid (And.intro (h2.out.1.drew hD h2.out.2.1) h2.out.2)
                       clear hD hb hs h2
                       clear wd
                       have hyi := (show (y : Int) < 4 from Int.ofNat_lt.2 hy.out)
                       refine takeYes 5 9 ?v13 rfl rfl (by kernel_rfl) (by kernel_rfl) (by kernel_rfl) (fun _ _ _ _ h => h) (by kernel_rfl) ?y13 ?r13
                       case y13 => intro w; go_simp; first | done | with_reducible rfl
                       simp only [Act.put, List.setIfInBounds_toArray, List.set_cons_zero, List.set_cons_succ]
                       clear hyi
                       revert hy; revert q_h2; revert q_hs; revert q_hb; revert we; revert y; revert b2; revert s
                       exact key15
                     · skip
                       go_simp
                       refine hK _ _ ?_
                       clear hK K
                       have hD : Drew wd g (wd.alloc (.cells #[.int .i64 0, .int .i64 0, .int .i64 1, .int .i64 2] 2)) := Drew.of_ext hb.out.1.1 ((Ext.refl _).alloc _)
                       have h8 := Lib.hid (And.intro (Box.new wd #[.int .i64 0, .int .i64 0, .int .i64 1, .int .i64 2] 2) (show wd.heap.size ≠ g ∧ w.heap.size < wd.heap.size from ⟨Nat.ne_of_gt hb.out.1.1.lt, hb.out.2.lt⟩))
                       generalize wd.alloc (.cells #[.int .i64 0, .int .i64 0, .int .i64 1, .int .i64 2] 2) = we at hD h8 ⊢
                       generalize wd.heap.size = b8 at h8 ⊢
                       try simp only [Act.put, List.setIfInBounds_toArray, List.set_cons_zero, List.set_cons_succ]
                       have q_hb := Lib.hid (And.intro (hb.out.1.trans hD) (hb.out.2.drew hD hwg))
                       have q_hs := Lib.hid (hs.out)
                       have q_h2 := Lib.hid (And.intro (h2.out.1.drew hD h2.out.2.1) h2.out.2)
                       clear hD hb hs h2
                       clear wd
                       revert h8; revert q_h2; revert q_hs; revert q_hb; revert we; revert b8; revert b2; revert s
                       exact key17
                     · skip
                       go_simp
                       refine hK _ _ ?_
                       clear hK K
                       have hD : Drew wd g (wd.alloc (.cells #[.string ⟨#[]⟩, .string ⟨#[]⟩, .int .i64 0, .int .i64 0, .int .i64 0] 69)) := Drew.of_ext hb.out.1.1 ((Ext.refl _).alloc _)
                       have h13 := Lib.hid (And.intro (Box.new wd #[.string ⟨#[]⟩, .string ⟨#[]⟩, .int .i64 0, .int .i64 0, .int .i64 0] 69) (show wd.heap.size ≠ g ∧ w.heap.size < wd.heap.size from ⟨Nat.ne_of_gt hb.out.1.1.lt, hb.out.2.lt⟩))
                       generalize wd.alloc (.cells #[.string ⟨#[]⟩, .string ⟨#[]⟩, .int .i64 0, .int .i64 0, .int .i64 0] 69) = we at hD h13 ⊢
                       generalize wd.heap.size = b13 at h13 ⊢
                       try simp only [Act.put, List.setIfInBounds_toArray, List.set_cons_zero, List.set_cons_succ]
                       have q_hb := Lib.hid (And.intro (hb.out.1.trans hD) (hb.out.2.drew hD hwg))
                       have q_hs := Lib.hid (hs.out)
                       have q_h2 := Lib.hid (And.intro (h2.out.1.drew hD h2.out.2.1) h2.out.2)
                       clear hD hb hs h2
                       clear wd
                       revert h13; revert q_h2; revert q_hs; revert q_hb; revert we; revert b13; revert b2; revert s
                       exact key18
                    intro s b2 b13 wd hb hs h2 h13
                    refine wpAny_ready (rs := [4, 8]) (by kernel_rfl) (by simp) ?_
                    refine AllReady.cons rfl (fun K hK => ?_) (AllReady.cons rfl (fun K hK => ?_) AllReady.nil)
                    · skip
                      go_simp
                      refine (l01Next_any _ _ _ hb.out.1.1 (by decide)).mono ?_
                      rintro e we ⟨y0, rfl, hy0, hy1, hD0⟩
                      obtain ⟨y, rfl, hyn⟩ := pick_nat 4 rfl (by decide) hy0 hy1
                      have hy := Lib.hid hyn
                      have hD := hD0.drew
                      clear hy0 hy1 hD0 hyn
                      go_wp2_with fail
                      try simp only [Act.put, List.setIfInBounds_toArray, List.set_cons_zero, List.set_cons_succ]
                      have q_hb := Lib.hid (And.intro (hb.out.1.trans hD) (hb.out.2.drew hD hwg))
                      have q_hs := Lib.hid (hs.out)
                      have q_h2 := Lib.hid (And.intro (h2.out.1.drew hD h2.out.2.1) h2.out.2)
                      have q_h13 := Lib.hid (And.intro (h13.out.1.drew hD h13.out.2.1) h13.out.2)
                      clear hD hb hs h2 h13
                      clear wd
                      have hyi := (show (y : Int) < 4 from Int.ofNat_lt.2 hy.out)
                      refine takeYes 5 9 ?v14 rfl rfl (by kernel_rfl) (by kernel_rfl) (by kernel_rfl) (fun _ _ _ _ h => h) (by kernel_rfl) ?y14 ?r14
                      case y14 => intro w; go_simp; first | done | with_reducible rfl
                      simp only [Act.put, List.setIfInBounds_toArray, List.set_cons_zero, List.set_cons_succ]
                      clear hyi
                      revert q_h13; revert hy; revert q_h2; revert q_hs; revert q_hb; revert we; revert b13; revert y; revert b2; revert s
                      exact key14
                    · skip
                      go_simp
                      refine hK _ _ ?_
                      clear hK K
                      have hD : Drew wd g (wd.alloc (.cells #[.int .i64 0, .int .i64 0, .int .i64 1, .int .i64 2] 2)) := Drew.of_ext hb.out.1.1 ((Ext.refl _).alloc _)
                      have h8 := Lib.hid (And.intro (Box.new wd #[.int .i64 0, .int .i64 0, .int .i64 1, .int .i64 2] 2) (show wd.heap.size ≠ g ∧ w.heap.size < wd.heap.size from ⟨Nat.ne_of_gt hb.out.1.1.lt, hb.out.2.lt⟩))
                      generalize wd.alloc (.cells #[.int .i64 0, .int .i64 0, .int .i64 1, .int .i64 2] 2) = we at hD h8 ⊢
                      generalize wd.heap.size = b8 at h8 ⊢
                      try simp only [Act.put, List.setIfInBounds_toArray, List.set_cons_zero, List.set_cons_succ]
                      have q_hb := Lib.hid (And.intro (hb.out.1.trans hD) (hb.out.2.drew hD hwg))
                      have q_hs := Lib.hid (hs.out)
                      have q_h2 := Lib.hid (And.intro (h2.out.1.drew hD h2.out.2.1) h2.out.2)
                      have q_h13 := Lib.hid (And.intro (h13.out.1.drew hD h13.out.2.1) h13.out.2)
                      clear hD hb hs h2 h13
                      clear wd
                      revert q_h13; revert h8; revert q_h2; revert q_hs; revert q_hb; revert we; revert b13; revert b8; revert b2; revert s
                      exact key16
                   intro s b2 b8 wd hb hs h2 h8
                   refine wpAny_ready (rs := [4, 13]) (by kernel_rfl) (by simp) ?_
                   refine AllReady.cons rfl (fun K hK => ?_) (AllReady.cons rfl (fun K hK => ?_) AllReady.nil)
                   · skip
                     go_simp
                     refine (l01Next_any _ _ _ hb.out.1.1 (by decide)).mono ?_
                     rintro e we ⟨y0, rfl, hy0, hy1, hD0⟩
                     obtain ⟨y, rfl, hyn⟩ := pick_nat 4 rfl (by decide) hy0 hy1
                     have hy := Lib.hid hyn
                     have hD := hD0.drew
                     clear hy0 hy1 hD0 hyn
                     go_wp2_with fail
                     try simp only [Act.put, List.setIfInBounds_toArray, List.set_cons_zero, List.set_cons_succ]
                     have q_hb := Lib.hid (And.intro (hb.out.1.trans hD) (hb.out.2.drew hD hwg))
                     have q_hs := Lib.hid (hs.out)
                     have q_h2 := Lib.hid (And.intro (h2.out.1.drew hD h2.out.2.1) h2.out.2)
                     have q_h8 := Lib.hid (And.intro (h8.out.1.drew hD h8.out.2.1) h8.out.2)
                     clear hD hb hs h2 h8
                     clear wd
                     have hyi := (show (y : Int) < 4 from Int.ofNat_lt.2 hy.out)
                     refine takeYes 5 9 ?v15 rfl rfl (by kernel_rfl) (by kernel_rfl) (by kernel_rfl) (fun _ _ _ _ h => h) (by kernel_rfl) ?y15 ?r15
                     case y15 => intro w; go_simp; first | done | with_reducible rfl
                     simp only [Act.put, List.setIfInBounds_toArray, List.set_cons_zero, List.set_cons_succ]
                     clear hyi
                     revert q_h8; revert hy; revert q_h2; revert q_hs; revert q_hb; revert we; revert b8; revert y; revert b2; revert s
                     exact key13
                   · skip
                     go_simp
                     refine hK _ _ ?_
                     clear hK K
                     have hD : Drew wd g (wd.alloc (.cells #[.string ⟨#[]⟩, .string ⟨#[]⟩, .int .i64 0, .int .i64 0, .int .i64 0] 69)) := Drew.of_ext hb.out.1.1 ((Ext.refl _).alloc _)
                     have h13 := Lib.hid (And.intro (Box.new wd #[.string ⟨#[]⟩, .string ⟨#[]⟩, .int .i64 0, .int .i64 0, .int .i64 0] 69) (show wd.heap.size ≠ g ∧ w.heap.size < wd.heap.size from ⟨Nat.ne_of_gt hb.out.1.1.lt, hb.out.2.lt⟩))
                     generalize wd.alloc (.cells #[.string ⟨#[]⟩, .string ⟨#[]⟩, .int .i64 0, .int .i64 0, .int .i64 0] 69) = we at hD h13 ⊢
                     generalize wd.heap.size = b13 at h13 ⊢
                     try simp only [Act.put, List.setIfInBounds_toArray, List.set_cons_zero, List.set_cons_succ]
                     have q_hb := Lib.hid (And.intro (hb.out.1.trans hD) (hb.out.2.drew hD hwg))
                     have q_hs := Lib.hid (hs.out)
                     have q_h2 := Lib.hid (And.intro (h2.out.1.drew hD h2.out.2.1) h2.out.2)
                     have q_h8 := Lib.hid (And.intro (h8.out.1.drew hD h8.out.2.1) h8.out.2)
                     clear hD hb hs h2 h8
                     clear wd
                     revert h13; revert q_h8; revert q_h2; revert q_hs; revert q_hb; revert we; revert b13; revert b8; revert b2; revert s
                     exact key16
                  intro s b2 b8 b13 wd hb hs h2 h8 h13
                  refine wpAny_ready (rs := [4]) (by kernel_rfl) (by simp) ?_
                  refine AllReady.cons rfl (fun K hK => ?_) AllReady.nil
                  skip
                  go_simp
                  refine (l01Next_any _ _ _ hb.out.1.1 (by decide)).mono ?_
                  rintro e we ⟨y0, rfl, hy0, hy1, hD0⟩
                  obtain ⟨y, rfl, hyn⟩ := pick_nat 4 rfl (by decide) hy0 hy1
                  have hy := Lib.hid hyn
                  have hD := hD0.drew
                  clear hy0 hy1 hD0 hyn
                  go_wp2_with fail
                  try simp only [Act.put, List.setIfInBounds_toArray, List.set_cons_zero, List.set_cons_succ]
                  have q_hb := Lib.hid (And.intro (hb.out.1.trans hD) (hb.out.2.drew hD hwg))
                  have q_hs := Lib.hid (hs.out)
                  have q_h2 := Lib.hid (And.intro (h2.out.1.drew hD h2.out.2.1) h2.out.2)
                  have q_h8 := Lib.hid (And.intro (h8.out.1.drew hD h8.out.2.1) h8.out.2)
                  have q_h13 := Lib.hid (And.intro (h13.out.1.drew hD h13.out.2.1) h13.out.2)
                  clear hD hb hs h2 h8 h13
                  clear wd
                  have hyi := (show (y : Int) < 4 from Int.ofNat_lt.2 hy.out)
                  refine takeYes 5 9 ?v16 rfl rfl (by kernel_rfl) (by kernel_rfl) (by kernel_rfl) (fun _ _ _ _ h => h) (by kernel_rfl) ?y16 ?r16
                  case y16 => intro w; go_simp; first | done | with_reducible rfl
                  simp only [Act.put, List.setIfInBounds_toArray, List.set_cons_zero, List.set_cons_succ]
                  clear hyi
                  revert q_h13; revert q_h8; revert hy; revert q_h2; revert q_hs; revert q_hb; revert we; revert b13; revert b8; revert y; revert b2; revert s
                  exact key12
                 intro s b2 y wd hb hs h2 hy
                 refine wpAny_ready (rs := [6, 8, 13]) (by kernel_rfl) (by simp) ?_
                 refine AllReady.cons rfl (fun K hK => ?_) (AllReady.cons rfl (fun K hK => ?_) (AllReady.cons rfl (fun K hK => ?_) AllReady.nil))
                 · skip
                   obtain ⟨lg, hc, hlz⟩ := Lits.of_box (n := 4) h2.out.1 (by kernel_rfl) rfl y hy.out
                   have hl := Lib.hid hlz
                   clear hlz
                   go_simp
                   refine hK _ _ ?_
                   clear hK K
                   clear hc
                   try simp only [Act.put, List.setIfInBounds_toArray, List.set_cons_zero, List.set_cons_succ]
                   clear h2 hy
                   revert hl; revert hs; revert hb; revert wd; revert lg; revert y; revert b2; revert s
                   exact key7
                 · skip
                   go_simp
                   refine hK _ _ ?_
                   clear hK K
                   have hD : Drew wd g (wd.alloc (.cells #[.int .i64 0, .int .i64 0, .int .i64 1, .int .i64 2] 2)) := Drew.of_ext hb.out.1.1 ((Ext.refl _).alloc _)
                   have h8 := Lib.hid (And.intro (Box.new wd #[.int .i64 0, .int .i64 0, .int .i64 1, .int .i64 2] 2) (show wd.heap.size ≠ g ∧ w.heap.size < wd.heap.size from ⟨Nat.ne_of_gt hb.out.1.1.lt, hb.out.2.lt⟩))
                   generalize wd.alloc (.cells #[.int .i64 0, .int .i64 0, .int .i64 1, .int .i64 2] 2) = we at hD h8 ⊢
                   generalize wd.heap.size = b8 at h8 ⊢
                   try simp only [Act.put, List.setIfInBounds_toArray, List.set_cons_zero, List.set_cons_succ]
                   have q_hb := Lib.hid (And.intro (hb.out.1.trans hD) (hb.out.2.drew hD hwg))
                   have q_hs := Lib.hid (hs.out)
                   have q_h2 := Lib.hid (And.intro (h2.out.1.drew hD h2.out.2.1) h2.out.2)
                   have q_hy := Lib.hid (hy.out)
                   clear hD hb hs h2 hy
                   clear wd
                   revert h8; revert q_hy; revert q_h2; revert q_hs; revert q_hb; revert we; revert b8; revert y; revert b2; revert s
                   exact key13
                 · skip
                   go_simp
                   refine hK _ _ ?_
                   clear hK K
                   have hD : Drew wd g (wd.alloc (.cells #[.string ⟨#[]⟩, .string ⟨#[]⟩, .int .i64 0, .int .i64 0, .int .i64 0] 69)) := Drew.of_ext hb.out.1.1 ((Ext.refl _).alloc _)
                   have h13 := Lib.hid (And.intro (Box.new wd #[.string ⟨#[]⟩, .string ⟨#[]⟩, .int .i64 0, .int .i64 0, .int .i64 0] 69) (show wd.heap.size ≠ g ∧ w.heap.size < wd.heap.size from ⟨Nat.ne_of_gt hb.out.1.1.lt, hb.out.2.lt⟩))
                   generalize wd.alloc (.cells #[.string ⟨#[]⟩, .string ⟨#[]⟩, .int .i64 0, .int .i64 0, .int .i64 0] 69) = we at hD h13 ⊢
                   generalize wd.heap.size = b13 at h13 ⊢
                   try simp only [Act.put, List.setIfInBounds_toArray, List.set_cons_zero, List.set_cons_succ]
                   have q_hb := Lib.hid (And.intro (hb.out.1.trans hD) (hb.out.2.drew hD hwg))
                   have q_hs := Lib.hid (hs.out)
                   have q_h2 := Lib.hid (And.intro (h2.out.1.drew hD h2.out.2.1) h2.out.2)
                   have q_hy := Lib.hid (hy.out)
                   clear hD hb hs h2 hy
                   clear wd
                   revert h13; revert q_hy; revert q_h2; revert q_hs; revert q_hb; revert we; revert b13; revert y; revert b2; revert s
                   exact key14
                intro s b2 y b13 wd hb hs h2 hy h13
                refine wpAny_ready (rs := [6, 8]) (by kernel_rfl) (by simp) ?_
                refine AllReady.cons rfl (fun K hK => ?_) (AllReady.cons rfl (fun K hK => ?_) AllReady.nil)
                · skip
                  obtain ⟨lg, hc, hlz⟩ := Lits.of_box (n := 4) h2.out.1 (by kernel_rfl) rfl y hy.out
                  have hl := Lib.hid hlz
                  clear hlz
                  go_simp
                  refine hK _ _ ?_
                  clear hK K
                  clear hc
                  try simp only [Act.put, List.setIfInBounds_toArray, List.set_cons_zero, List.set_cons_succ]
                  clear h2 hy
                  revert h13; revert hl; revert hs; revert hb; revert wd; revert b13; revert lg; revert y; revert b2; revert s
                  exact key6
                · skip
                  go_simp
                  refine hK _ _ ?_
                  clear hK K
                  have hD : Drew wd g (wd.alloc (.cells #[.int .i64 0, .int .i64 0, .int .i64 1, .int .i64 2] 2)) := Drew.of_ext hb.out.1.1 ((Ext.refl _).alloc _)
                  have h8 := Lib.hid (And.intro (Box.new wd #[.int .i64 0, .int .i64 0, .int .i64 1, .int .i64 2] 2) (show wd.heap.size ≠ g ∧ w.heap.size < wd.heap.size from ⟨Nat.ne_of_gt hb.out.1.1.lt, hb.out.2.lt⟩))
                  generalize wd.alloc (.cells #[.int .i64 0, .int .i64 0, .int .i64 1, .int .i64 2] 2) = we at hD h8 ⊢
                  generalize wd.heap.size = b8 at h8 ⊢
                  try simp only [Act.put, List.setIfInBounds_toArray, List.set_cons_zero, List.set_cons_succ]
                  have q_hb := Lib.hid (And.intro (hb.out.1.trans hD) (hb.out.2.drew hD hwg))
                  have q_hs := Lib.hid (hs.out)
                  have q_h2 := Lib.hid (And.intro (h2.out.1.drew hD h2.out.2.1) h2.out.2)
                  have q_hy := Lib.hid (hy.out)
                  have q_h13 := Lib.hid (And.intro (h13.out.1.drew hD h13.out.2.1) h13.out.2)
                  clear hD hb hs h2 hy h13
                  clear wd
                  revert q_h13; revert h8; revert q_hy; revert q_h2; revert q_hs; revert q_hb; revert we; revert b13; revert b8; revert y; revert b2; revert s
                  exact key12
               intro s b2 y b8 wd hb hs h2 hy h8
               refine wpAny_ready (rs := [6, 9, 13]) (by kernel_rfl) (by simp) ?_
               refine AllReady.cons rfl (fun K hK => ?_) (AllReady.cons rfl (fun K hK => ?_) (AllReady.cons rfl (fun K hK => ?_) AllReady.nil))
               · skip
                 obtain ⟨lg, hc, hlz⟩ := Lits.of_box (n := 4) h2.out.1 (by kernel_rfl) rfl y hy.out
                 have hl := Lib.hid hlz
                 clear hlz
                 go_simp
                 refine hK _ _ ?_
                 clear hK K
                 clear hc
                 try simp only [Act.put, List.setIfInBounds_toArray, List.set_cons_zero, List.set_cons_succ]
                 clear h2 hy
                 revert h8; revert hl; revert hs; revert hb; revert wd; revert b8; revert lg; revert y; revert b2; revert s
                 exact key5
               · skip
                 go_simp
                 refine (l01Pick_any _ _ _ _ _ _ hb.out.1.1 (RdI.of_box h8.out.1 [0, 0, 1, 2] rfl (by simp)) (by simp) (by rintro ad e; cases e; exact h8.out.2.1)).mono ?_
                 rintro e we ⟨p, rfl, hp, hD0⟩
                 have hD := hD0.drew
                 clear hp hD0
                 go_wp2_with fail
                 try simp only [Act.put, List.setIfInBounds_toArray, List.set_cons_zero, List.set_cons_succ]
                 have q_hb := Lib.hid (And.intro (hb.out.1.trans hD) (hb.out.2.drew hD hwg))
                 have q_hs := Lib.hid (hs.out)
                 have q_h2 := Lib.hid (And.intro (h2.out.1.drew hD h2.out.2.1) h2.out.2)
                 have q_hy := Lib.hid (hy.out)
                 clear hD hb hs h2 hy h8
                 clear wd
                 revert q_hy; revert q_h2; revert q_hs; revert q_hb; revert we; revert p; revert b8; revert y; revert b2; revert s
                 exact key11
               · skip
                 go_simp
                 refine hK _ _ ?_
                 clear hK K
                 have hD : Drew wd g (wd.alloc (.cells #[.string ⟨#[]⟩, .string ⟨#[]⟩, .int .i64 0, .int .i64 0, .int .i64 0] 69)) := Drew.of_ext hb.out.1.1 ((Ext.refl _).alloc _)
                 have h13 := Lib.hid (And.intro (Box.new wd #[.string ⟨#[]⟩, .string ⟨#[]⟩, .int .i64 0, .int .i64 0, .int .i64 0] 69) (show wd.heap.size ≠ g ∧ w.heap.size < wd.heap.size from ⟨Nat.ne_of_gt hb.out.1.1.lt, hb.out.2.lt⟩))
                 generalize wd.alloc (.cells #[.string ⟨#[]⟩, .string ⟨#[]⟩, .int .i64 0, .int .i64 0, .int .i64 0] 69) = we at hD h13 ⊢
                 generalize wd.heap.size = b13 at h13 ⊢
                 try simp only [Act.put, List.setIfInBounds_toArray, List.set_cons_zero, List.set_cons_succ]
                 have q_hb := Lib.hid (And.intro (hb.out.1.trans hD) (hb.out.2.drew hD hwg))
                 have q_hs := Lib.hid (hs.out)
                 have q_h2 := Lib.hid (And.intro (h2.out.1.drew hD h2.out.2.1) h2.out.2)
                 have q_hy := Lib.hid (hy.out)
                 have q_h8 := Lib.hid (And.intro (h8.out.1.drew hD h8.out.2.1) h8.out.2)
                 clear hD hb hs h2 hy h8
                 clear wd
                 revert h13; revert q_h8; revert q_hy; revert q_h2; revert q_hs; revert q_hb; revert we; revert b13; revert b8; revert y; revert b2; revert s
                 exact key12
              intro s b2 y b8 b13 wd hb hs h2 hy h8 h13
              refine wpAny_ready (rs := [6, 9]) (by kernel_rfl) (by simp) ?_
              refine AllReady.cons rfl (fun K hK => ?_) (AllReady.cons rfl (fun K hK => ?_) AllReady.nil)
              · skip
                obtain ⟨lg, hc, hlz⟩ := Lits.of_box (n := 4) h2.out.1 (by kernel_rfl) rfl y hy.out
                have hl := Lib.hid hlz
                clear hlz
                go_simp
                refine hK _ _ ?_
                clear hK K
                clear hc
                try simp only [Act.put, List.setIfInBounds_toArray, List.set_cons_zero, List.set_cons_succ]
                clear h2 hy
                revert h13; revert h8; revert hl; revert hs; revert hb; revert wd; revert b13; revert b8; revert lg; revert y; revert b2; revert s
                exact key4
              · skip
                go_simp
                refine (l01Pick_any _ _ _ _ _ _ hb.out.1.1 (RdI.of_box h8.out.1 [0, 0, 1, 2] rfl (by simp)) (by simp) (by rintro ad e; cases e; exact h8.out.2.1)).mono ?_
                rintro e we ⟨p, rfl, hp, hD0⟩
                have hD := hD0.drew
                clear hp hD0
                go_wp2_with fail
                try simp only [Act.put, List.setIfInBounds_toArray, List.set_cons_zero, List.set_cons_succ]
                have q_hb := Lib.hid (And.intro (hb.out.1.trans hD) (hb.out.2.drew hD hwg))
                have q_hs := Lib.hid (hs.out)
                have q_h2 := Lib.hid (And.intro (h2.out.1.drew hD h2.out.2.1) h2.out.2)
                have q_hy := Lib.hid (hy.out)
                have q_h13 := Lib.hid (And.intro (h13.out.1.drew hD h13.out.2.1) h13.out.2)
                clear hD hb hs h2 hy h8 h13
                clear wd
                revert q_h13; revert q_hy; revert q_h2; revert q_hs; revert q_hb; revert we; revert b13; revert p; revert b8; revert y; revert b2; revert s
                exact key10
             intro s b2 y b8 p wd hb hs h2 hy
             refine wpAny_ready (rs := [6, 11, 13]) (by kernel_rfl) (by simp) ?_
             refine AllReady.cons rfl (fun K hK => ?_) (AllReady.cons rfl (fun K hK => ?_) (AllReady.cons rfl (fun K hK => ?_) AllReady.nil))
             · skip
               obtain ⟨lg, hc, hlz⟩ := Lits.of_box (n := 4) h2.out.1 (by kernel_rfl) rfl y hy.out
               have hl := Lib.hid hlz
               clear hlz
               go_simp
               refine hK _ _ ?_
               clear hK K
               clear hc
               try simp only [Act.put, List.setIfInBounds_toArray, List.set_cons_zero, List.set_cons_succ]
               clear h2 hy
               revert hl; revert hs; revert hb; revert wd; revert p; revert b8; revert lg; revert y; revert b2; revert s
               exact key3
             · skip
               go_simp
               refine (l02Good_any _ _ hb.out.1.1).mono ?_
               rintro e we ⟨⟨q0, q1⟩, rfl, hq, hD⟩
               rw [valSpan]
               simp only
               clear hq
               go_wp2_with fail
               try simp only [Act.put, List.setIfInBounds_toArray, List.set_cons_zero, List.set_cons_succ]
               have q_hb := Lib.hid (And.intro (hb.out.1.trans hD) (hb.out.2.drew hD hwg))
               have q_hs := Lib.hid (hs.out)
               have q_h2 := Lib.hid (And.intro (h2.out.1.drew hD h2.out.2.1) h2.out.2)
               have q_hy := Lib.hid (hy.out)
               clear hD hb hs h2 hy
               clear wd
               revert q_hy; revert q_h2; revert q_hs; revert q_hb; revert we; revert q1; revert q0; revert p; revert b8; revert y; revert b2; revert s
               exact key9
             · skip
               go_simp
               refine hK _ _ ?_
               clear hK K
               have hD : Drew wd g (wd.alloc (.cells #[.string ⟨#[]⟩, .string ⟨#[]⟩, .int .i64 0, .int .i64 0, .int .i64 0] 69)) := Drew.of_ext hb.out.1.1 ((Ext.refl _).alloc _)
               have h13 := Lib.hid (And.intro (Box.new wd #[.string ⟨#[]⟩, .string ⟨#[]⟩, .int .i64 0, .int .i64 0, .int .i64 0] 69) (show wd.heap.size ≠ g ∧ w.heap.size < wd.heap.size from ⟨Nat.ne_of_gt hb.out.1.1.lt, hb.out.2.lt⟩))
               generalize wd.alloc (.cells #[.string ⟨#[]⟩, .string ⟨#[]⟩, .int .i64 0, .int .i64 0, .int .i64 0] 69) = we at hD h13 ⊢
               generalize wd.heap.size = b13 at h13 ⊢
               try simp only [Act.put, List.setIfInBounds_toArray, List.set_cons_zero, List.set_cons_succ]
               have q_hb := Lib.hid (And.intro (hb.out.1.trans hD) (hb.out.2.drew hD hwg))
               have q_hs := Lib.hid (hs.out)
               have q_h2 := Lib.hid (And.intro (h2.out.1.drew hD h2.out.2.1) h2.out.2)
               have q_hy := Lib.hid (hy.out)
               clear hD hb hs h2 hy
               clear wd
               revert h13; revert q_hy; revert q_h2; revert q_hs; revert q_hb; revert we; revert b13; revert p; revert b8; revert y; revert b2; revert s
               exact key10
            intro s b2 y b8 p b13 wd hb hs h2 hy h13
            refine wpAny_ready (rs := [6, 11]) (by kernel_rfl) (by simp) ?_
            refine AllReady.cons rfl (fun K hK => ?_) (AllReady.cons rfl (fun K hK => ?_) AllReady.nil)
            · skip
              obtain ⟨lg, hc, hlz⟩ := Lits.of_box (n := 4) h2.out.1 (by kernel_rfl) rfl y hy.out
              have hl := Lib.hid hlz
              clear hlz
              go_simp
              refine hK _ _ ?_
              clear hK K
              clear hc
              try simp only [Act.put, List.setIfInBounds_toArray, List.set_cons_zero, List.set_cons_succ]
              clear h2 hy
              revert h13; revert hl; revert hs; revert hb; revert wd; revert b13; revert p; revert b8; revert lg; revert y; revert b2; revert s
              exact key2
            · skip
              go_simp
              refine (l02Good_any _ _ hb.out.1.1).mono ?_
              rintro e we ⟨⟨q0, q1⟩, rfl, hq, hD⟩
              rw [valSpan]
              simp only
              clear hq
              go_wp2_with fail
              try simp only [Act.put, List.setIfInBounds_toArray, List.set_cons_zero, List.set_cons_succ]
              have q_hb := Lib.hid (And.intro (hb.out.1.trans hD) (hb.out.2.drew hD hwg))
              have q_hs := Lib.hid (hs.out)
              have q_h2 := Lib.hid (And.intro (h2.out.1.drew hD h2.out.2.1) h2.out.2)
              have q_hy := Lib.hid (hy.out)
              have q_h13 := Lib.hid (And.intro (h13.out.1.drew hD h13.out.2.1) h13.out.2)
              clear hD hb hs h2 hy h13
              clear wd
              revert q_h13; revert q_hy; revert q_h2; revert q_hs; revert q_hb; revert we; revert b13; revert q1; revert q0; revert p; revert b8; revert y; revert b2; revert s
              exact key8
           intro s b2 y b8 p q0 q1 wd hb hs h2 hy
           refine wpAny_ready (rs := [6, 13]) (by kernel_rfl) (by simp) ?_
           refine AllReady.cons rfl (fun K hK => ?_) (AllReady.cons rfl (fun K hK => ?_) AllReady.nil)
           · skip
             obtain ⟨lg, hc, hlz⟩ := Lits.of_box (n := 4) h2.out.1 (by kernel_rfl) rfl y hy.out
             have hl := Lib.hid hlz
             clear hlz
             go_simp
             refine hK _ _ ?_
             clear hK K
             clear hc
             try simp only [Act.put, List.setIfInBounds_toArray, List.set_cons_zero, List.set_cons_succ]
             clear h2 hy
             refine takeYes 12 16 ?v17 rfl rfl (by kernel_rfl) (by kernel_rfl) (by kernel_rfl) (fun _ _ _ _ h => h) (by kernel_rfl) ?y17 ?r17
             case y17 => intro w; go_simp; first | done | with_reducible rfl
             simp only [Act.put, List.setIfInBounds_toArray, List.set_cons_zero, List.set_cons_succ]
             revert hl; revert hs; revert hb; revert wd; revert q1; revert q0; revert p; revert b8; revert lg; revert y; revert b2; revert s
             exact key1
           · skip
             go_simp
             refine hK _ _ ?_
             clear hK K
             have hD : Drew wd g (wd.alloc (.cells #[.string ⟨#[]⟩, .string ⟨#[]⟩, .int .i64 0, .int .i64 0, .int .i64 0] 69)) := Drew.of_ext hb.out.1.1 ((Ext.refl _).alloc _)
             have h13 := Lib.hid (And.intro (Box.new wd #[.string ⟨#[]⟩, .string ⟨#[]⟩, .int .i64 0, .int .i64 0, .int .i64 0] 69) (show wd.heap.size ≠ g ∧ w.heap.size < wd.heap.size from ⟨Nat.ne_of_gt hb.out.1.1.lt, hb.out.2.lt⟩))
             generalize wd.alloc (.cells #[.string ⟨#[]⟩, .string ⟨#[]⟩, .int .i64 0, .int .i64 0, .int .i64 0] 69) = we at hD h13 ⊢
             generalize wd.heap.size = b13 at h13 ⊢
             try simp only [Act.put, List.setIfInBounds_toArray, List.set_cons_zero, List.set_cons_succ]
             have q_hb := Lib.hid (And.intro (hb.out.1.trans hD) (hb.out.2.drew hD hwg))
             have q_hs := Lib.hid (hs.out)
             have q_h2 := Lib.hid (And.intro (h2.out.1.drew hD h2.out.2.1) h2.out.2)
             have q_hy := Lib.hid (hy.out)
             clear hD hb hs h2 hy
             clear wd
             revert h13; revert q_hy; revert q_h2; revert q_hs; revert q_hb; revert we; revert b13; revert q1; revert q0; revert p; revert b8; revert y; revert b2; revert s
             exact key8
          intro s b2 y b8 p q0 q1 b13 wd hb hs h2 hy h13
          refine wpAny_ready (rs := [6]) (by kernel_rfl) (by simp) ?_
          refine AllReady.cons rfl (fun K hK => ?_) AllReady.nil
          skip
          obtain ⟨lg, hc, hlz⟩ := Lits.of_box (n := 4) h2.out.1 (by kernel_rfl) rfl y hy.out
          have hl := Lib.hid hlz
          clear hlz
          go_simp
          refine hK _ _ ?_
          clear hK K
          clear hc
          try simp only [Act.put, List.setIfInBounds_toArray, List.set_cons_zero, List.set_cons_succ]
          clear h2 hy
          refine takeYes 12 16 ?v18 rfl rfl (by kernel_rfl) (by kernel_rfl) (by kernel_rfl) (fun _ _ _ _ h => h) (by kernel_rfl) ?y18 ?r18
          case y18 => intro w; go_simp; first | done | with_reducible rfl
          simp only [Act.put, List.setIfInBounds_toArray, List.set_cons_zero, List.set_cons_succ]
          revert h13; revert hl; revert hs; revert hb; revert wd; revert b13; revert q1; revert q0; revert p; revert b8; revert lg; revert y; revert b2; revert s
          exact key0
         intro s b2 y lg wd hb hs hl
         refine wpAny_ready (rs := [8, 13]) (by kernel_rfl) (by simp) ?_
         refine AllReady.cons rfl (fun K hK => ?_) (AllReady.cons rfl (fun K hK => ?_) AllReady.nil)
         · skip
           go_simp
           refine hK _ _ ?_
           clear hK K
           have hD : Drew wd g (wd.alloc (.cells #[.int .i64 0, .int .i64 0, .int .i64 1, .int .i64 2] 2)) := Drew.of_ext hb.out.1.1 ((Ext.refl _).alloc _)
           have h8 := Lib.hid (And.intro (Box.new wd #[.int .i64 0, .int .i64 0, .int .i64 1, .int .i64 2] 2) (show wd.heap.size ≠ g ∧ w.heap.size < wd.heap.size from ⟨Nat.ne_of_gt hb.out.1.1.lt, hb.out.2.lt⟩))
           generalize wd.alloc (.cells #[.int .i64 0, .int .i64 0, .int .i64 1, .int .i64 2] 2) = we at hD h8 ⊢
           generalize wd.heap.size = b8 at h8 ⊢
           try simp only [Act.put, List.setIfInBounds_toArray, List.set_cons_zero, List.set_cons_succ]
           have q_hb := Lib.hid (And.intro (hb.out.1.trans hD) (hb.out.2.drew hD hwg))
           have q_hs := Lib.hid (hs.out)
           have q_hl := Lib.hid (hl.out)
           clear hD hb hs hl
           clear wd
           revert h8; revert q_hl; revert q_hs; revert q_hb; revert we; revert b8; revert lg; revert y; revert b2; revert s
           exact key5
         · skip
           go_simp
           refine hK _ _ ?_
           clear hK K
           have hD : Drew wd g (wd.alloc (.cells #[.string ⟨#[]⟩, .string ⟨#[]⟩, .int .i64 0, .int .i64 0, .int .i64 0] 69)) := Drew.of_ext hb.out.1.1 ((Ext.refl _).alloc _)
           have h13 := Lib.hid (And.intro (Box.new wd #[.string ⟨#[]⟩, .string ⟨#[]⟩, .int .i64 0, .int .i64 0, .int .i64 0] 69) (show wd.heap.size ≠ g ∧ w.heap.size < wd.heap.size from ⟨Nat.ne_of_gt hb.out.1.1.lt, hb.out.2.lt⟩))
           generalize wd.alloc (.cells #[.string ⟨#[]⟩, .string ⟨#[]⟩, .int .i64 0, .int .i64 0, .int .i64 0] 69) = we at hD h13 ⊢
           generalize wd.heap.size = b13 at h13 ⊢
           try simp only [Act.put, List.setIfInBounds_toArray, List.set_cons_zero, List.set_cons_succ]
           have q_hb := Lib.hid (And.intro (hb.out.1.trans hD) (hb.out.2.drew hD hwg))
           have q_hs := Lib.hid (hs.out)
           have q_hl := Lib.hid (hl.out)
           clear hD hb hs hl
           clear wd
           revert h13; revert q_hl; revert q_hs; revert q_hb; revert we; revert b13; revert lg; revert y; revert b2; revert s
           exact key6
        intro s b2 y lg b13 wd hb hs hl h13
        refine wpAny_ready (rs := [8]) (by kernel_rfl) (by simp) ?_
        refine AllReady.cons rfl (fun K hK => ?_) AllReady.nil
        skip
        go_simp
        refine hK _ _ ?_
        clear hK K
        have hD : Drew wd g (wd.alloc (.cells #[.int .i64 0, .int .i64 0, .int .i64 1, .int .i64 2] 2)) := Drew.of_ext hb.out.1.1 ((Ext.refl _).alloc _)
        have h8 := Lib.hid (And.intro (Box.new wd #[.int .i64 0, .int .i64 0, .int .i64 1, .int .i64 2] 2) (show wd.heap.size ≠ g ∧ w.heap.size < wd.heap.size from ⟨Nat.ne_of_gt hb.out.1.1.lt, hb.out.2.lt⟩))
        generalize wd.alloc (.cells #[.int .i64 0, .int .i64 0, .int .i64 1, .int .i64 2] 2) = we at hD h8 ⊢
        generalize wd.heap.size = b8 at h8 ⊢
        try simp only [Act.put, List.setIfInBounds_toArray, List.set_cons_zero, List.set_cons_succ]
        have q_hb := Lib.hid (And.intro (hb.out.1.trans hD) (hb.out.2.drew hD hwg))
        have q_hs := Lib.hid (hs.out)
        have q_hl := Lib.hid (hl.out)
        have q_h13 := Lib.hid (And.intro (h13.out.1.drew hD h13.out.2.1) h13.out.2)
        clear hD hb hs hl h13
        clear wd
        revert q_h13; revert h8; revert q_hl; revert q_hs; revert q_hb; revert we; revert b13; revert b8; revert lg; revert y; revert b2; revert s
        exact key4
       intro s b2 y lg b8 wd hb hs hl h8
       refine wpAny_ready (rs := [9, 13]) (by kernel_rfl) (by simp) ?_
       refine AllReady.cons rfl (fun K hK => ?_) (AllReady.cons rfl (fun K hK => ?_) AllReady.nil)
       · skip
         go_simp
         refine (l01Pick_any _ _ _ _ _ _ hb.out.1.1 (RdI.of_box h8.out.1 [0, 0, 1, 2] rfl (by simp)) (by simp) (by rintro ad e; cases e; exact h8.out.2.1)).mono ?_
         rintro e we ⟨p, rfl, hp, hD0⟩
         have hD := hD0.drew
         clear hp hD0
         go_wp2_with fail
         try simp only [Act.put, List.setIfInBounds_toArray, List.set_cons_zero, List.set_cons_succ]
         have q_hb := Lib.hid (And.intro (hb.out.1.trans hD) (hb.out.2.drew hD hwg))
         have q_hs := Lib.hid (hs.out)
         have q_hl := Lib.hid (hl.out)
         clear hD hb hs hl h8
         clear wd
         revert q_hl; revert q_hs; revert q_hb; revert we; revert p; revert b8; revert lg; revert y; revert b2; revert s
         exact key3
       · skip
         go_simp
         refine hK _ _ ?_
         clear hK K
         have hD : Drew wd g (wd.alloc (.cells #[.string ⟨#[]⟩, .string ⟨#[]⟩, .int .i64 0, .int .i64 0, .int .i64 0] 69)) := Drew.of_ext hb.out.1.1 ((Ext.refl _).alloc _)
         have h13 := Lib.hid (And.intro (Box.new wd #[.string ⟨#[]⟩, .string ⟨#[]⟩, .int .i64 0, .int .i64 0, .int .i64 0] 69) (show wd.heap.size ≠ g ∧ w.heap.size < wd.heap.size from ⟨Nat.ne_of_gt hb.out.1.1.lt, hb.out.2.lt⟩))
         generalize wd.alloc (.cells #[.string ⟨#[]⟩, .string ⟨#[]⟩, .int .i64 0, .int .i64 0, .int .i64 0] 69) = we at hD h13 ⊢
         generalize wd.heap.size = b13 at h13 ⊢
         try simp only [Act.put, List.setIfInBounds_toArray, List.set_cons_zero, List.set_cons_succ]
         have q_hb := Lib.hid (And.intro (hb.out.1.trans hD) (hb.out.2.drew hD hwg))
         have q_hs := Lib.hid (hs.out)
         have q_hl := Lib.hid (hl.out)
         have q_h8 := Lib.hid (And.intro (h8.out.1.drew hD h8.out.2.1) h8.out.2)
         clear hD hb hs hl h8
         clear wd
         revert h13; revert q_h8; revert q_hl; revert q_hs; revert q_hb; revert we; revert b13; revert b8; revert lg; revert y; revert b2; revert s
         exact key4
      intro s b2 y lg b8 b13 wd hb hs hl h8 h13
      refine wpAny_ready (rs := [9]) (by kernel_rfl) (by simp) ?_
      refine AllReady.cons rfl (fun K hK => ?_) AllReady.nil
      skip
      go_simp
      refine (l01Pick_any _ _ _ _ _ _ hb.out.1.1 (RdI.of_box h8.out.1 [0, 0, 1, 2] rfl (by simp)) (by simp) (by rintro ad e; cases e; exact h8.out.2.1)).mono ?_
      rintro e we ⟨p, rfl, hp, hD0⟩
      have hD := hD0.drew
      clear hp hD0
      go_wp2_with fail
      try simp only [Act.put, List.setIfInBounds_toArray, List.set_cons_zero, List.set_cons_succ]
      have q_hb := Lib.hid (And.intro (hb.out.1.trans hD) (hb.out.2.drew hD hwg))
      have q_hs := Lib.hid (hs.out)
      have q_hl := Lib.hid (hl.out)
      have q_h13 := Lib.hid (And.intro (h13.out.1.drew hD h13.out.2.1) h13.out.2)
      clear hD hb hs hl h8 h13
      clear wd
      revert q_h13; revert q_hl; revert q_hs; revert q_hb; revert we; revert b13; revert p; revert b8; revert lg; revert y; revert b2; revert s
      exact key2
     intro s b2 y lg b8 p wd hb hs hl
     refine wpAny_ready (rs := [11, 13]) (by kernel_rfl) (by simp) ?_
     refine AllReady.cons rfl (fun K hK => ?_) (AllReady.cons rfl (fun K hK => ?_) AllReady.nil)
     · skip
       go_simp
       refine (l02Good_any _ _ hb.out.1.1).mono ?_
       rintro e we ⟨⟨q0, q1⟩, rfl, hq, hD⟩
       rw [valSpan]
       simp only
       clear hq
       go_wp2_with fail
       try simp only [Act.put, List.setIfInBounds_toArray, List.set_cons_zero, List.set_cons_succ]
       have q_hb := Lib.hid (And.intro (hb.out.1.trans hD) (hb.out.2.drew hD hwg))
       have q_hs := Lib.hid (hs.out)
       have q_hl := Lib.hid (hl.out)
       clear hD hb hs hl
       clear wd
       refine takeYes 12 16 ?v19 rfl rfl (by kernel_rfl) (by kernel_rfl) (by kernel_rfl) (fun _ _ _ _ h => h) (by kernel_rfl) ?y19 ?r19
       case y19 => intro w; go_simp; first | done | with_reducible rfl
       simp only [Act.put, List.setIfInBounds_toArray, List.set_cons_zero, List.set_cons_succ]
       revert q_hl; revert q_hs; revert q_hb; revert we; revert q1; revert q0; revert p; revert b8; revert lg; revert y; revert b2; revert s
       exact key1
     · skip
       go_simp
       refine hK _ _ ?_
       clear hK K
       have hD : Drew wd g (wd.alloc (.cells #[.string ⟨#[]⟩, .string ⟨#[]⟩, .int .i64 0, .int .i64 0, .int .i64 0] 69)) := Drew.of_ext hb.out.1.1 ((Ext.refl _).alloc _)
       have h13 := Lib.hid (And.intro (Box.new wd #[.string ⟨#[]⟩, .string ⟨#[]⟩, .int .i64 0, .int .i64 0, .int .i64 0] 69) (show wd.heap.size ≠ g ∧ w.heap.size < wd.heap.size from ⟨Nat.ne_of_gt hb.out.1.1.lt, hb.out.2.lt⟩))
       generalize wd.alloc (.cells #[.string ⟨#[]⟩, .string ⟨#[]⟩, .int .i64 0, .int .i64 0, .int .i64 0] 69) = we at hD h13 ⊢
       generalize wd.heap.size = b13 at h13 ⊢
       try simp only [Act.put, List.setIfInBounds_toArray, List.set_cons_zero, List.set_cons_succ]
       have q_hb := Lib.hid (And.intro (hb.out.1.trans hD) (hb.out.2.drew hD hwg))
       have q_hs := Lib.hid (hs.out)
       have q_hl := Lib.hid (hl.out)
       clear hD hb hs hl
       clear wd
       revert h13; revert q_hl; revert q_hs; revert q_hb; revert we; revert b13; revert p; revert b8; revert lg; revert y; revert b2; revert s
       exact key2
    intro s b2 y lg b8 p b13 wd hb hs hl h13
    refine wpAny_ready (rs := [11]) (by kernel_rfl) (by simp) ?_
    refine AllReady.cons rfl (fun K hK => ?_) AllReady.nil
    skip
    go_simp
    refine (l02Good_any _ _ hb.out.1.1).mono ?_
    rintro e we ⟨⟨q0, q1⟩, rfl, hq, hD⟩
    rw [valSpan]
    simp only
    clear hq
    go_wp2_with fail
    try simp only [Act.put, List.setIfInBounds_toArray, List.set_cons_zero, List.set_cons_succ]
    have q_hb := Lib.hid (And.intro (hb.out.1.trans hD) (hb.out.2.drew hD hwg))
    have q_hs := Lib.hid (hs.out)
    have q_hl := Lib.hid (hl.out)
    have q_h13 := Lib.hid (And.intro (h13.out.1.drew hD h13.out.2.1) h13.out.2)
    clear hD hb hs hl h13
    clear wd
    refine takeYes 12 16 ?v20 rfl rfl (by kernel_rfl) (by kernel_rfl) (by kernel_rfl) (fun _ _ _ _ h => h) (by kernel_rfl) ?y20 ?r20
    case y20 => intro w; go_simp; first | done | with_reducible rfl
    simp only [Act.put, List.setIfInBounds_toArray, List.set_cons_zero, List.set_cons_succ]
    revert q_h13; revert q_hl; revert q_hs; revert q_hb; revert we; revert b13; revert q1; revert q0; revert p; revert b8; revert lg; revert y; revert b2; revert s
    exact key0
   intro s b2 y lg b8 p q0 q1 wd hb hs hl
   refine wpAny_ready (rs := [13]) (by kernel_rfl) (by simp) ?_
   refine AllReady.cons rfl (fun K hK => ?_) AllReady.nil
   skip
   go_simp
   refine hK _ _ ?_
   clear hK K
   have hD : Drew wd g (wd.alloc (.cells #[.string ⟨#[]⟩, .string ⟨#[]⟩, .int .i64 0, .int .i64 0, .int .i64 0] 69)) := Drew.of_ext hb.out.1.1 ((Ext.refl _).alloc _)
   have h13 := Lib.hid (And.intro (Box.new wd #[.string ⟨#[]⟩, .string ⟨#[]⟩, .int .i64 0, .int .i64 0, .int .i64 0] 69) (show wd.heap.size ≠ g ∧ w.heap.size < wd.heap.size from ⟨Nat.ne_of_gt hb.out.1.1.lt, hb.out.2.lt⟩))
   generalize wd.alloc (.cells #[.string ⟨#[]⟩, .string ⟨#[]⟩, .int .i64 0, .int .i64 0, .int .i64 0] 69) = we at hD h13 ⊢
   generalize wd.heap.size = b13 at h13 ⊢
   try simp only [Act.put, List.setIfInBounds_toArray, List.set_cons_zero, List.set_cons_succ]
   have q_hb := Lib.hid (And.intro (hb.out.1.trans hD) (hb.out.2.drew hD hwg))
   have q_hs := Lib.hid (hs.out)
   have q_hl := Lib.hid (hl.out)
   clear hD hb hs hl
   clear wd
   revert h13; revert q_hl; revert q_hs; revert q_hb; revert we; revert b13; revert q1; revert q0; revert p; revert b8; revert lg; revert y; revert b2; revert s
   exact key0
  intro s b2 y lg b8 p q0 q1 b13 wd hb hs hl h13
  refine wpAny_ready (rs := [14]) (by kernel_rfl) (by simp) ?_
  refine AllReady.cons rfl (fun K hK => ?_) AllReady.nil
  skip
  have bx0 := h13.out.1.cell 0
  have bx1 := h13.out.1.cell 1
  have bx2 := h13.out.1.cell 2
  have bx3 := h13.out.1.cell 3
  have bx4 := h13.out.1.cell 4
  have f0 := h13.out.1.frozen 0
  have f1 := h13.out.1.frozen 1
  have f2 := h13.out.1.frozen 2
  have f3 := h13.out.1.frozen 3
  have f4 := h13.out.1.frozen 4
  go_simp
  refine hK _ _ ?_
  clear hK K
  try simp only [Act.put, List.setIfInBounds_toArray, List.set_cons_zero, List.set_cons_succ]
  refine wpAny_done (by kernel_rfl) ?_ _
  have hgb : g < b13 := Nat.lt_trans hg h13.out.2.2
  have hwb : (w.alloc (.cells #[.string ⟨#[]⟩, .string ⟨#[]⟩, .int .i64 0, .int .i64 0, .int .i64 0] 69)).heap.size ≤ b13 := by have := h13.out.2.2; simp; omega
  have hE := Lib.hid (show Drew (w.alloc (.cells #[.string ⟨#[]⟩, .string ⟨#[]⟩, .int .i64 0, .int .i64 0, .int .i64 0] 69)) g (((((wd.setCell ⟨b13, 0, none⟩ (.string s)).setCell ⟨b13, 1, none⟩ (.string lg)).setCell ⟨b13, 2, none⟩ (.int .i64 p)).setCell ⟨b13, 3, none⟩ (.int .i64 q0)).setCell ⟨b13, 4, none⟩ (.int .i64 q1)) ∧ Box (((((wd.setCell ⟨b13, 0, none⟩ (.string s)).setCell ⟨b13, 1, none⟩ (.string lg)).setCell ⟨b13, 2, none⟩ (.int .i64 p)).setCell ⟨b13, 3, none⟩ (.int .i64 q0)).setCell ⟨b13, 4, none⟩ (.int .i64 q1)) w.heap.size #[.string ⟨#[]⟩, .string ⟨#[]⟩, .int .i64 0, .int .i64 0, .int .i64 0] 69 ∧ Box (((((wd.setCell ⟨b13, 0, none⟩ (.string s)).setCell ⟨b13, 1, none⟩ (.string lg)).setCell ⟨b13, 2, none⟩ (.int .i64 p)).setCell ⟨b13, 3, none⟩ (.int .i64 q0)).setCell ⟨b13, 4, none⟩ (.int .i64 q1)) b13 #[.string s, .string lg, .int .i64 p, .int .i64 q0, .int .i64 q1] 69 from ⟨(((((hb.out.1).setCell hwb hgb 0 _).setCell hwb hgb 1 _).setCell hwb hgb 2 _).setCell hwb hgb 3 _).setCell hwb hgb 4 _, Box.far (Box.far (Box.far (Box.far (Box.far (hb.out.2) (Nat.ne_of_lt h13.out.2.2) 0 _) (Nat.ne_of_lt h13.out.2.2) 1 _) (Nat.ne_of_lt h13.out.2.2) 2 _) (Nat.ne_of_lt h13.out.2.2) 3 _) (Nat.ne_of_lt h13.out.2.2) 4 _, (((((h13.out.1).set 0 _).set 1 _).set 2 _).set 3 _).set 4 _⟩)
  have hwb3 := h13.out.2.2
  have hs2 := hs.out
  have hl2 := hl.out
  generalize ((((wd.setCell ⟨b13, 0, none⟩ (.string s)).setCell ⟨b13, 1, none⟩ (.string lg)).setCell ⟨b13, 2, none⟩ (.int .i64 p)).setCell ⟨b13, 3, none⟩ (.int .i64 q0)).setCell ⟨b13, 4, none⟩ (.int .i64 q1) = wx at hE ⊢
  clear hb h13 hs hl bx0 bx1 bx2 bx3 bx4 f0 f1 f2 f3 f4
  clear wd
  have hne : ¬ w.heap.size = b13 := by omega
  have hne2 : ¬ b13 = w.heap.size := by omega
  have hbg : b13 ≠ g := by omega
  go_wp2_with fail
  refine (l01Next_any _ _ _ hE.out.1.1 (by decide)).mono ?_
  rintro e w2 ⟨y, rfl, hy0, hy1, hd⟩
  have h2 := Lib.hid (And.intro (hE.out.1.trans hd.drew) (And.intro (hE.out.2.1.drew hd.drew hwg) (hE.out.2.2.drew hd.drew hbg)))
  clear hd hE
  have hg2 := h2.out.1.1.lt
  by_cases y0 : y = 0
  · subst y0
    go_wp2_with fail
    refine (l01DrawPhrase_any _ _ h2.out.1.1).mono ?_
    rintro e w3 ⟨u, rfl, hu, hd⟩
    have h3 := Lib.hid (And.intro (h2.out.1.trans hd) (And.intro (h2.out.2.1.drew hd hwg) (h2.out.2.2.drew hd hbg)))
    clear hd
    have a0 := h3.out.2.1.cell 0
    have a1 := h3.out.2.1.cell 1
    have a2 := h3.out.2.1.cell 2
    have a3 := h3.out.2.1.cell 3
    have a4 := h3.out.2.1.cell 4
    have f0 := h3.out.2.1.frozen 0
    have f1 := h3.out.2.1.frozen 1
    have f2 := h3.out.2.1.frozen 2
    have f3 := h3.out.2.1.frozen 3
    have f4 := h3.out.2.1.frozen 4
    have c0 := h3.out.2.2.cell 0
    have c1 := h3.out.2.2.cell 1
    have c2 := h3.out.2.2.cell 2
    have c3 := h3.out.2.2.cell 3
    have c4 := h3.out.2.2.cell 4
    have d0 := h3.out.2.2.frozen 0
    have d1 := h3.out.2.2.frozen 1
    have d2 := h3.out.2.2.frozen 2
    have d3 := h3.out.2.2.frozen 3
    have d4 := h3.out.2.2.frozen 4
    go_wp2
    exact bodyPost_ret (v := .agg #[.string u, .string lg, .int .i64 p, .int .i64 q0, .int .i64 q1]) (by simp [results, Tryz.results147, go_sem, a0, a1, a2, a3, a4]) rfl ⟨⟨u, lg, p, q0, q1⟩, rfl, ⟨by simp only; omega, by simp only; omega⟩, (((((Drew.pre ((Ext.refl _).alloc _) ((h3.out.1).setCell hwb hgb 0 _)).setCell (Nat.le_refl _) hg 0 _).setCell (Nat.le_refl _) hg 1 _).setCell (Nat.le_refl _) hg 2 _).setCell (Nat.le_refl _) hg 3 _).setCell (Nat.le_refl _) hg 4 _⟩
  by_cases y1 : y = 1
  · subst y1
    go_wp2_with fail
    refine (l01Next_any _ _ _ (h2.out.1.1.ext ((Ext.refl _).alloc _)) (by decide)).mono ?_
    rintro e w3 ⟨z, rfl, hz0, hz1, hd⟩
    obtain ⟨j, rfl, hj⟩ := pick_nat 4 rfl (by decide) hz0 hz1
    have hji : (j : Int) < 4 := by omega
    obtain ⟨u, hc, hu⟩ := Lits.new (n := 4) hd.drew hg2 (by kernel_rfl) rfl j hj
    have hd2 := Drew.pre ((Ext.refl w2).alloc _) hd.drew
    have h3 := Lib.hid (And.intro (h2.out.1.trans hd2) (And.intro (h2.out.2.1.drew hd2 hwg) (h2.out.2.2.drew hd2 hbg)))
    clear hd hd2 hz0 hz1
    have a0 := h3.out.2.1.cell 0
    have a1 := h3.out.2.1.cell 1
    have a2 := h3.out.2.1.cell 2
    have a3 := h3.out.2.1.cell 3
    have a4 := h3.out.2.1.cell 4
    have f0 := h3.out.2.1.frozen 0
    have f1 := h3.out.2.1.frozen 1
    have f2 := h3.out.2.1.frozen 2
    have f3 := h3.out.2.1.frozen 3
    have f4 := h3.out.2.1.frozen 4
    have c0 := h3.out.2.2.cell 0
    have c1 := h3.out.2.2.cell 1
    have c2 := h3.out.2.2.cell 2
    have c3 := h3.out.2.2.cell 3
    have c4 := h3.out.2.2.cell 4
    have d0 := h3.out.2.2.frozen 0
    have d1 := h3.out.2.2.frozen 1
    have d2 := h3.out.2.2.frozen 2
    have d3 := h3.out.2.2.frozen 3
    have d4 := h3.out.2.2.frozen 4
    go_wp2
    exact bodyPost_ret (v := .agg #[.string s, .string u, .int .i64 p, .int .i64 q0, .int .i64 q1]) (by simp [results, Tryz.results147, go_sem, a0, a1, a2, a3, a4]) rfl ⟨⟨s, u, p, q0, q1⟩, rfl, ⟨by simp only; omega, by simp only; omega⟩, (((((Drew.pre ((Ext.refl _).alloc _) ((h3.out.1).setCell hwb hgb 1 _)).setCell (Nat.le_refl _) hg 0 _).setCell (Nat.le_refl _) hg 1 _).setCell (Nat.le_refl _) hg 2 _).setCell (Nat.le_refl _) hg 3 _).setCell (Nat.le_refl _) hg 4 _⟩
  by_cases y2 : y = 2
  · subst y2
    go_wp2_with fail
    refine (l01Pick_any _ _ _ _ _ _ (h2.out.1.1.ext ((Ext.refl _).alloc _)) (RdI.lits _ [-1, 3] _ rfl (by simp)) (by simp) (by rintro ad e; cases e; exact Nat.ne_of_gt hg2)).mono ?_
    rintro e w3 ⟨u, rfl, hu, hd⟩
    have hd2 := Drew.pre ((Ext.refl w2).alloc _) hd.drew
    have h3 := Lib.hid (And.intro (h2.out.1.trans hd2) (And.intro (h2.out.2.1.drew hd2 hwg) (h2.out.2.2.drew hd2 hbg)))
    clear hd hd2 hu
    have a0 := h3.out.2.1.cell 0
    have a1 := h3.out.2.1.cell 1
    have a2 := h3.out.2.1.cell 2
    have a3 := h3.out.2.1.cell 3
    have a4 := h3.out.2.1.cell 4
    have f0 := h3.out.2.1.frozen 0
    have f1 := h3.out.2.1.frozen 1
    have f2 := h3.out.2.1.frozen 2
    have f3 := h3.out.2.1.frozen 3
    have f4 := h3.out.2.1.frozen 4
    have c0 := h3.out.2.2.cell 0
    have c1 := h3.out.2.2.cell 1
    have c2 := h3.out.2.2.cell 2
    have c3 := h3.out.2.2.cell 3
    have c4 := h3.out.2.2.cell 4
    have d0 := h3.out.2.2.frozen 0
    have d1 := h3.out.2.2.frozen 1
    have d2 := h3.out.2.2.frozen 2
    have d3 := h3.out.2.2.frozen 3
    have d4 := h3.out.2.2.frozen 4
    go_wp2
    exact bodyPost_ret (v := .agg #[.string s, .string lg, .int .i64 u, .int .i64 q0, .int .i64 q1]) (by simp [results, Tryz.results147, go_sem, a0, a1, a2, a3, a4]) rfl ⟨⟨s, lg, u, q0, q1⟩, rfl, ⟨by simp only; omega, by simp only; omega⟩, (((((Drew.pre ((Ext.refl _).alloc _) ((h3.out.1).setCell hwb hgb 2 _)).setCell (Nat.le_refl _) hg 0 _).setCell (Nat.le_refl _) hg 1 _).setCell (Nat.le_refl _) hg 2 _).setCell (Nat.le_refl _) hg 3 _).setCell (Nat.le_refl _) hg 4 _⟩
  by_cases y3 : y = 3
  · subst y3
    go_wp2_with fail
    refine (l02Draw_any _ _ h2.out.1.1).mono ?_
    rintro e w3 ⟨⟨u0, u1⟩, rfl, hu, hd⟩
    rw [valSpan]
    simp only
    have h3 := Lib.hid (And.intro (h2.out.1.trans hd) (And.intro (h2.out.2.1.drew hd hwg) (h2.out.2.2.drew hd hbg)))
    clear hd hu
    have a0 := h3.out.2.1.cell 0
    have a1 := h3.out.2.1.cell 1
    have a2 := h3.out.2.1.cell 2
    have a3 := h3.out.2.1.cell 3
    have a4 := h3.out.2.1.cell 4
    have f0 := h3.out.2.1.frozen 0
    have f1 := h3.out.2.1.frozen 1
    have f2 := h3.out.2.1.frozen 2
    have f3 := h3.out.2.1.frozen 3
    have f4 := h3.out.2.1.frozen 4
    have c0 := h3.out.2.2.cell 0
    have c1 := h3.out.2.2.cell 1
    have c2 := h3.out.2.2.cell 2
    have c3 := h3.out.2.2.cell 3
    have c4 := h3.out.2.2.cell 4
    have d0 := h3.out.2.2.frozen 0
    have d1 := h3.out.2.2.frozen 1
    have d2 := h3.out.2.2.frozen 2
    have d3 := h3.out.2.2.frozen 3
    have d4 := h3.out.2.2.frozen 4
    go_wp2
    exact bodyPost_ret (v := .agg #[.string s, .string lg, .int .i64 p, .int .i64 u0, .int .i64 u1]) (by simp [results, Tryz.results147, go_sem, a0, a1, a2, a3, a4]) rfl ⟨⟨s, lg, p, u0, u1⟩, rfl, ⟨by simp only; omega, by simp only; omega⟩, (((((Drew.pre ((Ext.refl _).alloc _) (((h3.out.1).setCell hwb hgb 3 _).setCell hwb hgb 4 _)).setCell (Nat.le_refl _) hg 0 _).setCell (Nat.le_refl _) hg 1 _).setCell (Nat.le_refl _) hg 2 _).setCell (Nat.le_refl _) hg 3 _).setCell (Nat.le_refl _) hg 4 _⟩
  have a0 := h2.out.2.1.cell 0
  have a1 := h2.out.2.1.cell 1
  have a2 := h2.out.2.1.cell 2
  have a3 := h2.out.2.1.cell 3
  have a4 := h2.out.2.1.cell 4
  have f0 := h2.out.2.1.frozen 0
  have f1 := h2.out.2.1.frozen 1
  have f2 := h2.out.2.1.frozen 2
  have f3 := h2.out.2.1.frozen 3
  have f4 := h2.out.2.1.frozen 4
  have c0 := h2.out.2.2.cell 0
  have c1 := h2.out.2.2.cell 1
  have c2 := h2.out.2.2.cell 2
  have c3 := h2.out.2.2.cell 3
  have c4 := h2.out.2.2.cell 4
  have d0 := h2.out.2.2.frozen 0
  have d1 := h2.out.2.2.frozen 1
  have d2 := h2.out.2.2.frozen 2
  have d3 := h2.out.2.2.frozen 3
  have d4 := h2.out.2.2.frozen 4
  go_wp2
  exact bodyPost_ret (v := .agg #[.string s, .string lg, .int .i64 p, .int .i64 q0, .int .i64 q1]) (by simp [results, Tryz.results147, go_sem, a0, a1, a2, a3, a4]) rfl ⟨⟨s, lg, p, q0, q1⟩, rfl, ⟨by simp only; omega, by simp only; omega⟩, (((((Drew.pre ((Ext.refl _).alloc _) (h2.out.1)).setCell (Nat.le_refl _) hg 0 _).setCell (Nat.le_refl _) hg 1 _).setCell (Nat.le_refl _) hg 2 _).setCell (Nat.le_refl _) hg 3 _).setCell (Nat.le_refl _) hg 4 _⟩

end Go.Proofs.YtjelmidkkpchkaaGreatDoor

/-
  The reference's draw of a good place.
-/
import Derived.Test.YtjelmidkkpchkaaGreatDoorPE
import Derived.Test.YtjelmidkkpchkaaGreatDoorNA2
namespace Go.Proofs.YtjelmidkkpchkaaGreatDoor
open Go.RowKit

theorem addy {y : Nat} (h : y < 600) : -9223372036854775808 ≤ 1000 + (y : Int) ∧ 1000 + (y : Int) ≤ 9223372036854775807 := by omega
theorem addz {f : Int} {z : Nat} (h : 1000 ≤ f ∧ f < 1600) (hz : z < 1000) : -9223372036854775808 ≤ f + 100 + (z : Int) ∧ f + 100 + (z : Int) ≤ 9223372036854775807 := by omega
theorem addf {f t : Int} {z : Nat} (h : 0 ≤ f ∧ f ≤ 2000 ∧ 0 ≤ t ∧ t ≤ 4000) (hz : z < 60) : -9223372036854775808 ≤ f + (z : Int) ∧ f + (z : Int) ≤ 9223372036854775807 := by omega
theorem subt {f t p : Int} (h : 0 ≤ f ∧ f ≤ 2000 ∧ 0 ≤ t ∧ t ≤ 4000) (hp : 0 ≤ p ∧ p ≤ 30) : -9223372036854775808 ≤ t - p ∧ t - p ≤ 9223372036854775807 := by omega
theorem pick_bd {p : Int} {z : Nat} (h : p ∈ [0, (z : Int)]) (hz : z < 30) : 0 ≤ p ∧ p ≤ 30 := by
  simp only [List.mem_cons, List.mem_nil_iff, or_false] at h
  omega
theorem own_box_ne {w : World} {B n c b m : Nat} {a : Option Addr} {xs : List Value} {cs : Array Value} (h : w.ownsRow B 69 5 (.slice a n c) m xs) (hb : Box w b cs 67) : ∀ q, a = some q → q.block ≠ b := fun q hq e => by
  rcases h.2 with ⟨hn, _⟩ | ⟨g, cap, cur, hv, _, hg, _⟩
  · cases hn; cases hq
  · cases hv; cases hq
    subst e
    rw [show w.heap[g]? = _ from hb] at hg
    simp only [Option.some.injEq, Obj.cells.injEq] at hg
    exact absurd hg.2.1.symm kind_neP
theorem own_offN {w : World} {B e sz n c m b k : Nat} {a : Option Addr} {xs : List Value} {u : Value} (h : w.ownsRow B e sz (.slice a n c) m xs) (hne : ∀ q, a = some q → q.block ≠ b) : (w.setCell ⟨b, k, none⟩ u).ownsRow B e sz (.slice a n c) m xs := by
  refine ⟨h.1, ?_⟩
  rcases h.2 with hn | ⟨g2, cap, cur, hv, hbg, hgg, rest⟩
  · exact .inl hn
  · refine .inr ⟨g2, cap, cur, hv, hbg, ?_, rest⟩
    cases hv
    rw [Below.heap_setCell _ _ _ _ (hne ⟨g2, 0, none⟩ rfl)]
    exact hgg
theorem own_belowN {w : World} {B e sz n c m : Nat} {a : Option Addr} {xs : List Value} (h : w.ownsRow B e sz (.slice a n c) m xs) : ∀ q, a = some q → q.block < w.heap.size := fun q hq => by
  rcases own_addr h with rfl | ⟨g, rfl⟩
  · cases hq
  · cases hq; exact (h.lt g rfl).2
/-- A write into a place's box leaves names alone. -/
theorem own_offB {w : World} {B n c b : Nat} {a : Option Addr} {xs : List NameV} {cs : Array Value} (h : OwnG layName 69 w B a n c xs) (hb : Box w b cs 67) (k : Nat) (u : Value) : OwnG layName 69 (w.setCell ⟨b, k, none⟩ u) B a n c xs :=
  ⟨own_offN h.1 (own_box_ne h.1 hb), h.2⟩
theorem own_off5 {w : World} {B n c b : Nat} {a : Option Addr} {xs : List NameV} {cs : Array Value} (h : OwnG layName 69 w B a n c xs) (hb : Box w b cs 67) (u0 u1 u2 u3 u4 : Value) :
    OwnG layName 69 (((((w.setCell ⟨b, 0, none⟩ u0).setCell ⟨b, 1, none⟩ u1).setCell ⟨b, 2, none⟩ u2).setCell ⟨b, 3, none⟩ u3).setCell ⟨b, 4, none⟩ u4) B a n c xs :=
  have hne := own_box_ne h.1 hb
  ⟨own_offN (own_offN (own_offN (own_offN (own_offN h.1 hne) hne) hne) hne) hne, h.2⟩
theorem shortN_ok {xs : List NameV} (h : shortN xs) : ∀ x ∈ xs, okName x := fun x hx => ⟨Nat.le_trans (h x hx).1 (by decide), Nat.le_trans (h x hx).2 (by decide)⟩
def DrewPl (w : World) (g : Nat) (e : Ending) (w' : World) : Prop := ∃ (x : PlaceV) (r : Ref), e = .returned (valPlace x r) ∧ OkP w' w.heap.size ⟨x, r⟩ ∧ Drew w g w'

set_option maxRecDepth 100000 in
set_option maxHeartbeats 16000000 in
theorem l11Good_any (g : Nat) (w : World) (hs : Src w g) :
    Calls Tryz.prog 115 #[.pointer (some ⟨g, 0, none⟩)] w (DrewPl w g) := by
  have hg := hs.lt
  have hwg : w.heap.size ≠ g := by omega
  have HS := Lib.hid hs
  clear hs
  go_enter Tryz.func115, Tryz.ntmps115
  go_wp2
  apply withKey
  case h =>
   intro key0
   apply withKey
   case h =>
    intro key1
    apply withKey
    case h =>
     intro key2
     apply withKey
     case h =>
      intro key3
      apply withKey
      case h =>
       intro key4
       apply withKey
       case h =>
        intro key5
        apply withKey
        case h =>
         intro key6
         apply withKey
         case h =>
          intro key7
          apply withKey
          case h =>
           intro key8
           apply withKey
           case h =>
            intro key9
            apply withKey
            case h =>
             intro key10
             apply withKey
             case h =>
              intro key11
              apply withKey
              case h =>
               intro key12
               apply withKey
               case h =>
                intro key13
                apply withKey
                case h =>
                 intro key14
                 apply withKey
                 case h =>
                  intro key15
                  apply withKey
                  case h =>
                   intro key16
                   apply withKey
                   case h =>
                    intro key17
                    apply withKey
                    case h =>
                     intro key18
                     apply withKey
                     case h =>
                      intro key19
                      apply withKey
                      case h =>
                       intro key20
                       apply withKey
                       case h =>
                        intro key21
                        apply withKey
                        case h =>
                         intro key22
                         apply withKey
                         case h =>
                          intro key23
                          apply withKey
                          case h =>
                           intro key24
                           apply withKey
                           case h =>
                            intro key25
                            apply withKey
                            case h =>
                             intro key26
                             apply withKey
                             case h =>
                              intro key27
                              apply withKey
                              case h =>
                               intro key28
                               apply withKey
                               case h =>
                                intro key29
                                apply withKey
                                case h =>
                                 intro key30
                                 apply withKey
                                 case h =>
                                  intro key31
                                  apply withKey
                                  case h =>
                                   intro key32
                                   apply withKey
                                   case h =>
                                    intro key33
                                    apply withKey
                                    case h =>
                                     intro key34
                                     apply withKey
                                     case h =>
                                      intro key35
                                      apply withKey
                                      case h =>
                                       intro key36
                                       apply withKey
                                       case h =>
                                        intro key37
                                        apply withKey
                                        case h =>
                                         intro key38
                                         apply withKey
                                         case h =>
                                          intro key39
                                          apply withKey
                                          case h =>
                                           intro key40
                                           apply withKey
                                           case h =>
                                            intro key41
                                            apply withKey
                                            case h =>
                                             intro key42
                                             apply withKey
                                             case h =>
                                              intro key43
                                              refine wp_region_any (by kernel_rfl) ?_
                                              try (change wpAny _ _ _ _ _ _ _ (World.drew _))
                                              have hb := Lib.hid (And.intro (Drew.of_ext (HS.out.ext ((Ext.refl w).alloc (.cells #[.string ⟨#[]⟩, .int .i64 0, .int .i64 0, .int .i64 0, .slice none 0 0] 67))) (Ext.refl _).drew) ((Box.new w #[.string ⟨#[]⟩, .int .i64 0, .int .i64 0, .int .i64 0, .slice none 0 0] 67).ext (Ext.refl _).drew))
                                              generalize (w.alloc (.cells #[.string ⟨#[]⟩, .int .i64 0, .int .i64 0, .int .i64 0, .slice none 0 0] 67)).drew = wd at hb ⊢
                                              refine takeYes 1 8 ?v1 rfl rfl (by kernel_rfl) (by kernel_rfl) (by kernel_rfl) (fun _ _ _ _ h => h) (by kernel_rfl) ?y1 ?r1
                                              case y1 => intro w; go_simp; first | done | with_reducible rfl
                                              simp only [Act.put, List.setIfInBounds_toArray, List.set_cons_zero, List.set_cons_succ]
                                              refine takeYes 5 12 ?v2 rfl rfl (by kernel_rfl) (by kernel_rfl) (by kernel_rfl) (fun _ _ _ _ h => h) (by kernel_rfl) ?y2 ?r2
                                              case y2 => intro w; go_simp; first | done | with_reducible rfl
                                              simp only [Act.put, List.setIfInBounds_toArray, List.set_cons_zero, List.set_cons_succ]
                                              refine takeYes 7 14 ?v3 rfl rfl (by kernel_rfl) (by kernel_rfl) (by kernel_rfl) (fun _ _ _ _ h => h) (by kernel_rfl) ?y3 ?r3
                                              case y3 => intro w; go_simp; first | done | with_reducible rfl
                                              simp only [Act.put, List.setIfInBounds_toArray, List.set_cons_zero, List.set_cons_succ]
                                              revert hb; revert wd
                                              exact key43
                                             intro wd hb
                                             refine wpAny_ready (rs := [0, 2, 11, 13]) (by kernel_rfl) (by simp) ?_
                                             refine AllReady.cons rfl (fun K hK => ?_) (AllReady.cons rfl (fun K hK => ?_) (AllReady.cons rfl (fun K hK => ?_) (AllReady.cons rfl (fun K hK => ?_) AllReady.nil)))
                                             · skip
                                               go_simp
                                               refine hK _ _ ?_
                                               clear hK K
                                               have hD : Drew wd g (wd.alloc (.cells #[.string ⟨#[97, 115, 104]⟩, .string ⟨#[98, 114, 105, 103]⟩, .string ⟨#[99, 111, 114, 107]⟩, .string ⟨#[100, 101, 118, 97]⟩, .string ⟨#[101, 108, 121]⟩, .string ⟨#[102, 105, 102, 101]⟩, .string ⟨#[103, 97, 116, 101]⟩, .string ⟨#[104, 117, 108, 108]⟩] 9)) := Drew.of_ext hb.out.1.1 ((Ext.refl _).alloc _)
                                               have hL := Lib.hid (And.intro (Box.new wd #[.string ⟨#[97, 115, 104]⟩, .string ⟨#[98, 114, 105, 103]⟩, .string ⟨#[99, 111, 114, 107]⟩, .string ⟨#[100, 101, 118, 97]⟩, .string ⟨#[101, 108, 121]⟩, .string ⟨#[102, 105, 102, 101]⟩, .string ⟨#[103, 97, 116, 101]⟩, .string ⟨#[104, 117, 108, 108]⟩] 9) (Nat.ne_of_gt hb.out.1.1.lt))
                                               generalize wd.alloc (.cells #[.string ⟨#[97, 115, 104]⟩, .string ⟨#[98, 114, 105, 103]⟩, .string ⟨#[99, 111, 114, 107]⟩, .string ⟨#[100, 101, 118, 97]⟩, .string ⟨#[101, 108, 121]⟩, .string ⟨#[102, 105, 102, 101]⟩, .string ⟨#[103, 97, 116, 101]⟩, .string ⟨#[104, 117, 108, 108]⟩] 9) = we at hD hL ⊢
                                               generalize wd.heap.size = bL at hL ⊢
                                               try simp only [Act.put, List.setIfInBounds_toArray, List.set_cons_zero, List.set_cons_succ]
                                               have q_hb := Lib.hid (And.intro (hb.out.1.trans hD) (hb.out.2.drew hD hwg))
                                               clear hD hb
                                               clear wd
                                               revert hL; revert q_hb; revert we; revert bL
                                               exact key27
                                             · skip
                                               go_simp
                                               refine (l01Next_any _ _ _ hb.out.1.1 (by decide)).mono ?_
                                               rintro e we ⟨z1, rfl, hz0, hz1, hD0⟩
                                               obtain ⟨y1, rfl, hyn⟩ := pick_nat 8 rfl (by decide) hz0 hz1
                                               have hy1 := Lib.hid hyn
                                               have hD := hD0.drew
                                               clear hz0 hz1 hD0 hyn
                                               go_wp2_with fail
                                               try simp only [Act.put, List.setIfInBounds_toArray, List.set_cons_zero, List.set_cons_succ]
                                               have q_hb := Lib.hid (And.intro (hb.out.1.trans hD) (hb.out.2.drew hD hwg))
                                               clear hD hb
                                               clear wd
                                               revert hy1; revert q_hb; revert we; revert y1
                                               exact key39
                                             · skip
                                               go_simp
                                               refine hK _ _ ?_
                                               clear hK K
                                               have hD : Drew wd g (wd.alloc (.cells #[] 69)) := Drew.of_ext hb.out.1.1 ((Ext.refl _).alloc _)
                                               have hN := Lib.hid ((OwnG.lit layName 69 wd (Nat.le_of_lt hb.out.2.lt) [] #[] rfl (by simp) : OwnG layName 69 (wd.alloc (.cells #[] 69)) w.heap.size (some ⟨wd.heap.size, 0, none⟩) 0 0 []))
                                               generalize wd.alloc (.cells #[] 69) = we at hD hN ⊢
                                               generalize wd.heap.size = bN at hN ⊢
                                               try simp only [Act.put, List.setIfInBounds_toArray, List.set_cons_zero, List.set_cons_succ]
                                               have q_hb := Lib.hid (And.intro (hb.out.1.trans hD) (hb.out.2.drew hD hwg))
                                               clear hD hb
                                               clear wd
                                               revert hN; revert q_hb; revert we; revert bN
                                               exact key41
                                             · skip
                                               go_simp
                                               refine hK _ _ ?_
                                               clear hK K
                                               have hD : Drew wd g (wd.alloc (.cells #[.string ⟨#[]⟩, .int .i64 0, .int .i64 0, .int .i64 0, .slice none 0 0] 67)) := Drew.of_ext hb.out.1.1 ((Ext.refl _).alloc _)
                                               have hP := Lib.hid (And.intro (Box.new wd #[.string ⟨#[]⟩, .int .i64 0, .int .i64 0, .int .i64 0, .slice none 0 0] 67) hb.out.2.lt)
                                               generalize wd.alloc (.cells #[.string ⟨#[]⟩, .int .i64 0, .int .i64 0, .int .i64 0, .slice none 0 0] 67) = we at hD hP ⊢
                                               generalize wd.heap.size = bP at hP ⊢
                                               try simp only [Act.put, List.setIfInBounds_toArray, List.set_cons_zero, List.set_cons_succ]
                                               have q_hb := Lib.hid (And.intro (hb.out.1.trans hD) (hb.out.2.drew hD hwg))
                                               clear hD hb
                                               clear wd
                                               revert hP; revert q_hb; revert we; revert bP
                                               exact key42
                                            intro bP wd hb hP
                                            refine wpAny_ready (rs := [0, 2, 11]) (by kernel_rfl) (by simp) ?_
                                            refine AllReady.cons rfl (fun K hK => ?_) (AllReady.cons rfl (fun K hK => ?_) (AllReady.cons rfl (fun K hK => ?_) AllReady.nil))
                                            · skip
                                              go_simp
                                              refine hK _ _ ?_
                                              clear hK K
                                              have hD : Drew wd g (wd.alloc (.cells #[.string ⟨#[97, 115, 104]⟩, .string ⟨#[98, 114, 105, 103]⟩, .string ⟨#[99, 111, 114, 107]⟩, .string ⟨#[100, 101, 118, 97]⟩, .string ⟨#[101, 108, 121]⟩, .string ⟨#[102, 105, 102, 101]⟩, .string ⟨#[103, 97, 116, 101]⟩, .string ⟨#[104, 117, 108, 108]⟩] 9)) := Drew.of_ext hb.out.1.1 ((Ext.refl _).alloc _)
                                              have hL := Lib.hid (And.intro (Box.new wd #[.string ⟨#[97, 115, 104]⟩, .string ⟨#[98, 114, 105, 103]⟩, .string ⟨#[99, 111, 114, 107]⟩, .string ⟨#[100, 101, 118, 97]⟩, .string ⟨#[101, 108, 121]⟩, .string ⟨#[102, 105, 102, 101]⟩, .string ⟨#[103, 97, 116, 101]⟩, .string ⟨#[104, 117, 108, 108]⟩] 9) (Nat.ne_of_gt hb.out.1.1.lt))
                                              generalize wd.alloc (.cells #[.string ⟨#[97, 115, 104]⟩, .string ⟨#[98, 114, 105, 103]⟩, .string ⟨#[99, 111, 114, 107]⟩, .string ⟨#[100, 101, 118, 97]⟩, .string ⟨#[101, 108, 121]⟩, .string ⟨#[102, 105, 102, 101]⟩, .string ⟨#[103, 97, 116, 101]⟩, .string ⟨#[104, 117, 108, 108]⟩] 9) = we at hD hL ⊢
                                              generalize wd.heap.size = bL at hL ⊢
                                              try simp only [Act.put, List.setIfInBounds_toArray, List.set_cons_zero, List.set_cons_succ]
                                              have q_hb := Lib.hid (And.intro (hb.out.1.trans hD) (hb.out.2.drew hD hwg))
                                              have q_hP := Lib.hid (And.intro (hP.out.1.drew hD (Nat.ne_of_gt (Nat.lt_trans hg hP.out.2))) hP.out.2)
                                              clear hD hb hP
                                              clear wd
                                              revert q_hP; revert hL; revert q_hb; revert we; revert bP; revert bL
                                              exact key26
                                            · skip
                                              go_simp
                                              refine (l01Next_any _ _ _ hb.out.1.1 (by decide)).mono ?_
                                              rintro e we ⟨z1, rfl, hz0, hz1, hD0⟩
                                              obtain ⟨y1, rfl, hyn⟩ := pick_nat 8 rfl (by decide) hz0 hz1
                                              have hy1 := Lib.hid hyn
                                              have hD := hD0.drew
                                              clear hz0 hz1 hD0 hyn
                                              go_wp2_with fail
                                              try simp only [Act.put, List.setIfInBounds_toArray, List.set_cons_zero, List.set_cons_succ]
                                              have q_hb := Lib.hid (And.intro (hb.out.1.trans hD) (hb.out.2.drew hD hwg))
                                              have q_hP := Lib.hid (And.intro (hP.out.1.drew hD (Nat.ne_of_gt (Nat.lt_trans hg hP.out.2))) hP.out.2)
                                              clear hD hb hP
                                              clear wd
                                              revert q_hP; revert hy1; revert q_hb; revert we; revert bP; revert y1
                                              exact key38
                                            · skip
                                              go_simp
                                              refine hK _ _ ?_
                                              clear hK K
                                              have hD : Drew wd g (wd.alloc (.cells #[] 69)) := Drew.of_ext hb.out.1.1 ((Ext.refl _).alloc _)
                                              have hN := Lib.hid ((OwnG.lit layName 69 wd (Nat.le_of_lt hb.out.2.lt) [] #[] rfl (by simp) : OwnG layName 69 (wd.alloc (.cells #[] 69)) w.heap.size (some ⟨wd.heap.size, 0, none⟩) 0 0 []))
                                              generalize wd.alloc (.cells #[] 69) = we at hD hN ⊢
                                              generalize wd.heap.size = bN at hN ⊢
                                              try simp only [Act.put, List.setIfInBounds_toArray, List.set_cons_zero, List.set_cons_succ]
                                              have q_hb := Lib.hid (And.intro (hb.out.1.trans hD) (hb.out.2.drew hD hwg))
                                              have q_hP := Lib.hid (And.intro (hP.out.1.drew hD (Nat.ne_of_gt (Nat.lt_trans hg hP.out.2))) hP.out.2)
                                              clear hD hb hP
                                              clear wd
                                              revert q_hP; revert hN; revert q_hb; revert we; revert bP; revert bN
                                              exact key40
                                           intro bN wd hb hN
                                           refine wpAny_ready (rs := [0, 2, 13]) (by kernel_rfl) (by simp) ?_
                                           refine AllReady.cons rfl (fun K hK => ?_) (AllReady.cons rfl (fun K hK => ?_) (AllReady.cons rfl (fun K hK => ?_) AllReady.nil))
                                           · skip
                                             go_simp
                                             refine hK _ _ ?_
                                             clear hK K
                                             have hD : Drew wd g (wd.alloc (.cells #[.string ⟨#[97, 115, 104]⟩, .string ⟨#[98, 114, 105, 103]⟩, .string ⟨#[99, 111, 114, 107]⟩, .string ⟨#[100, 101, 118, 97]⟩, .string ⟨#[101, 108, 121]⟩, .string ⟨#[102, 105, 102, 101]⟩, .string ⟨#[103, 97, 116, 101]⟩, .string ⟨#[104, 117, 108, 108]⟩] 9)) := Drew.of_ext hb.out.1.1 ((Ext.refl _).alloc _)
                                             have hL := Lib.hid (And.intro (Box.new wd #[.string ⟨#[97, 115, 104]⟩, .string ⟨#[98, 114, 105, 103]⟩, .string ⟨#[99, 111, 114, 107]⟩, .string ⟨#[100, 101, 118, 97]⟩, .string ⟨#[101, 108, 121]⟩, .string ⟨#[102, 105, 102, 101]⟩, .string ⟨#[103, 97, 116, 101]⟩, .string ⟨#[104, 117, 108, 108]⟩] 9) (Nat.ne_of_gt hb.out.1.1.lt))
                                             generalize wd.alloc (.cells #[.string ⟨#[97, 115, 104]⟩, .string ⟨#[98, 114, 105, 103]⟩, .string ⟨#[99, 111, 114, 107]⟩, .string ⟨#[100, 101, 118, 97]⟩, .string ⟨#[101, 108, 121]⟩, .string ⟨#[102, 105, 102, 101]⟩, .string ⟨#[103, 97, 116, 101]⟩, .string ⟨#[104, 117, 108, 108]⟩] 9) = we at hD hL ⊢
                                             generalize wd.heap.size = bL at hL ⊢
                                             try simp only [Act.put, List.setIfInBounds_toArray, List.set_cons_zero, List.set_cons_succ]
                                             have q_hb := Lib.hid (And.intro (hb.out.1.trans hD) (hb.out.2.drew hD hwg))
                                             have q_hN := Lib.hid (hN.out.drawn hD.2 hg)
                                             clear hD hb hN
                                             clear wd
                                             revert q_hN; revert hL; revert q_hb; revert we; revert bN; revert bL
                                             exact key25
                                           · skip
                                             go_simp
                                             refine (l01Next_any _ _ _ hb.out.1.1 (by decide)).mono ?_
                                             rintro e we ⟨z1, rfl, hz0, hz1, hD0⟩
                                             obtain ⟨y1, rfl, hyn⟩ := pick_nat 8 rfl (by decide) hz0 hz1
                                             have hy1 := Lib.hid hyn
                                             have hD := hD0.drew
                                             clear hz0 hz1 hD0 hyn
                                             go_wp2_with fail
                                             try simp only [Act.put, List.setIfInBounds_toArray, List.set_cons_zero, List.set_cons_succ]
                                             have q_hb := Lib.hid (And.intro (hb.out.1.trans hD) (hb.out.2.drew hD hwg))
                                             have q_hN := Lib.hid (hN.out.drawn hD.2 hg)
                                             clear hD hb hN
                                             clear wd
                                             revert q_hN; revert hy1; revert q_hb; revert we; revert bN; revert y1
                                             exact key37
                                           · skip
                                             go_simp
                                             refine hK _ _ ?_
                                             clear hK K
                                             have hD : Drew wd g (wd.alloc (.cells #[.string ⟨#[]⟩, .int .i64 0, .int .i64 0, .int .i64 0, .slice none 0 0] 67)) := Drew.of_ext hb.out.1.1 ((Ext.refl _).alloc _)
                                             have hP := Lib.hid (And.intro (Box.new wd #[.string ⟨#[]⟩, .int .i64 0, .int .i64 0, .int .i64 0, .slice none 0 0] 67) hb.out.2.lt)
                                             generalize wd.alloc (.cells #[.string ⟨#[]⟩, .int .i64 0, .int .i64 0, .int .i64 0, .slice none 0 0] 67) = we at hD hP ⊢
                                             generalize wd.heap.size = bP at hP ⊢
                                             try simp only [Act.put, List.setIfInBounds_toArray, List.set_cons_zero, List.set_cons_succ]
                                             have q_hb := Lib.hid (And.intro (hb.out.1.trans hD) (hb.out.2.drew hD hwg))
                                             have q_hN := Lib.hid (hN.out.drawn hD.2 hg)
                                             clear hD hb hN
                                             clear wd
                                             revert hP; revert q_hN; revert q_hb; revert we; revert bP; revert bN
                                             exact key40
                                          intro bN bP wd hb hN hP
                                          refine wpAny_ready (rs := [0, 2]) (by kernel_rfl) (by simp) ?_
                                          refine AllReady.cons rfl (fun K hK => ?_) (AllReady.cons rfl (fun K hK => ?_) AllReady.nil)
                                          · skip
                                            go_simp
                                            refine hK _ _ ?_
                                            clear hK K
                                            have hD : Drew wd g (wd.alloc (.cells #[.string ⟨#[97, 115, 104]⟩, .string ⟨#[98, 114, 105, 103]⟩, .string ⟨#[99, 111, 114, 107]⟩, .string ⟨#[100, 101, 118, 97]⟩, .string ⟨#[101, 108, 121]⟩, .string ⟨#[102, 105, 102, 101]⟩, .string ⟨#[103, 97, 116, 101]⟩, .string ⟨#[104, 117, 108, 108]⟩] 9)) := Drew.of_ext hb.out.1.1 ((Ext.refl _).alloc _)
                                            have hL := Lib.hid (And.intro (Box.new wd #[.string ⟨#[97, 115, 104]⟩, .string ⟨#[98, 114, 105, 103]⟩, .string ⟨#[99, 111, 114, 107]⟩, .string ⟨#[100, 101, 118, 97]⟩, .string ⟨#[101, 108, 121]⟩, .string ⟨#[102, 105, 102, 101]⟩, .string ⟨#[103, 97, 116, 101]⟩, .string ⟨#[104, 117, 108, 108]⟩] 9) (Nat.ne_of_gt hb.out.1.1.lt))
                                            generalize wd.alloc (.cells #[.string ⟨#[97, 115, 104]⟩, .string ⟨#[98, 114, 105, 103]⟩, .string ⟨#[99, 111, 114, 107]⟩, .string ⟨#[100, 101, 118, 97]⟩, .string ⟨#[101, 108, 121]⟩, .string ⟨#[102, 105, 102, 101]⟩, .string ⟨#[103, 97, 116, 101]⟩, .string ⟨#[104, 117, 108, 108]⟩] 9) = we at hD hL ⊢
                                            generalize wd.heap.size = bL at hL ⊢
                                            try simp only [Act.put, List.setIfInBounds_toArray, List.set_cons_zero, List.set_cons_succ]
                                            have q_hb := Lib.hid (And.intro (hb.out.1.trans hD) (hb.out.2.drew hD hwg))
                                            have q_hN := Lib.hid (hN.out.drawn hD.2 hg)
                                            have q_hP := Lib.hid (And.intro (hP.out.1.drew hD (Nat.ne_of_gt (Nat.lt_trans hg hP.out.2))) hP.out.2)
                                            clear hD hb hN hP
                                            clear wd
                                            revert q_hP; revert q_hN; revert hL; revert q_hb; revert we; revert bP; revert bN; revert bL
                                            exact key24
                                          · skip
                                            go_simp
                                            refine (l01Next_any _ _ _ hb.out.1.1 (by decide)).mono ?_
                                            rintro e we ⟨z1, rfl, hz0, hz1, hD0⟩
                                            obtain ⟨y1, rfl, hyn⟩ := pick_nat 8 rfl (by decide) hz0 hz1
                                            have hy1 := Lib.hid hyn
                                            have hD := hD0.drew
                                            clear hz0 hz1 hD0 hyn
                                            go_wp2_with fail
                                            try simp only [Act.put, List.setIfInBounds_toArray, List.set_cons_zero, List.set_cons_succ]
                                            have q_hb := Lib.hid (And.intro (hb.out.1.trans hD) (hb.out.2.drew hD hwg))
                                            have q_hN := Lib.hid (hN.out.drawn hD.2 hg)
                                            have q_hP := Lib.hid (And.intro (hP.out.1.drew hD (Nat.ne_of_gt (Nat.lt_trans hg hP.out.2))) hP.out.2)
                                            clear hD hb hN hP
                                            clear wd
                                            revert q_hP; revert q_hN; revert hy1; revert q_hb; revert we; revert bP; revert bN; revert y1
                                            exact key36
                                         intro y1 wd hb hy1
                                         refine wpAny_ready (rs := [0, 6, 11, 13]) (by kernel_rfl) (by simp) ?_
                                         refine AllReady.cons rfl (fun K hK => ?_) (AllReady.cons rfl (fun K hK => ?_) (AllReady.cons rfl (fun K hK => ?_) (AllReady.cons rfl (fun K hK => ?_) AllReady.nil)))
                                         · skip
                                           go_simp
                                           refine hK _ _ ?_
                                           clear hK K
                                           have hD : Drew wd g (wd.alloc (.cells #[.string ⟨#[97, 115, 104]⟩, .string ⟨#[98, 114, 105, 103]⟩, .string ⟨#[99, 111, 114, 107]⟩, .string ⟨#[100, 101, 118, 97]⟩, .string ⟨#[101, 108, 121]⟩, .string ⟨#[102, 105, 102, 101]⟩, .string ⟨#[103, 97, 116, 101]⟩, .string ⟨#[104, 117, 108, 108]⟩] 9)) := Drew.of_ext hb.out.1.1 ((Ext.refl _).alloc _)
                                           have hL := Lib.hid (And.intro (Box.new wd #[.string ⟨#[97, 115, 104]⟩, .string ⟨#[98, 114, 105, 103]⟩, .string ⟨#[99, 111, 114, 107]⟩, .string ⟨#[100, 101, 118, 97]⟩, .string ⟨#[101, 108, 121]⟩, .string ⟨#[102, 105, 102, 101]⟩, .string ⟨#[103, 97, 116, 101]⟩, .string ⟨#[104, 117, 108, 108]⟩] 9) (Nat.ne_of_gt hb.out.1.1.lt))
                                           generalize wd.alloc (.cells #[.string ⟨#[97, 115, 104]⟩, .string ⟨#[98, 114, 105, 103]⟩, .string ⟨#[99, 111, 114, 107]⟩, .string ⟨#[100, 101, 118, 97]⟩, .string ⟨#[101, 108, 121]⟩, .string ⟨#[102, 105, 102, 101]⟩, .string ⟨#[103, 97, 116, 101]⟩, .string ⟨#[104, 117, 108, 108]⟩] 9) = we at hD hL ⊢
                                           generalize wd.heap.size = bL at hL ⊢
                                           try simp only [Act.put, List.setIfInBounds_toArray, List.set_cons_zero, List.set_cons_succ]
                                           have q_hb := Lib.hid (And.intro (hb.out.1.trans hD) (hb.out.2.drew hD hwg))
                                           have q_hy1 := Lib.hid (hy1.out)
                                           clear hD hb hy1
                                           clear wd
                                           have hy1i := (show (y1 : Int) < 8 from Int.ofNat_lt.2 q_hy1.out)
                                           refine takeYes 3 10 ?v4 rfl rfl (by kernel_rfl) (by kernel_rfl) (by kernel_rfl) (fun _ _ _ _ h => h) (by kernel_rfl) ?y4 ?r4
                                           case y4 => intro w; go_simp; first | done | with_reducible rfl
                                           simp only [Act.put, List.setIfInBounds_toArray, List.set_cons_zero, List.set_cons_succ]
                                           clear hy1i
                                           revert q_hy1; revert hL; revert q_hb; revert we; revert y1; revert bL
                                           exact key23
                                         · skip
                                           go_simp
                                           refine (l01Next_any _ _ _ hb.out.1.1 (by decide)).mono ?_
                                           rintro e we ⟨z2, rfl, hz0, hz1, hD0⟩
                                           obtain ⟨y2, rfl, hyn⟩ := pick_nat 6 rfl (by decide) hz0 hz1
                                           have hy2 := Lib.hid hyn
                                           have hD := hD0.drew
                                           clear hz0 hz1 hD0 hyn
                                           go_wp2_with fail
                                           try simp only [Act.put, List.setIfInBounds_toArray, List.set_cons_zero, List.set_cons_succ]
                                           have q_hb := Lib.hid (And.intro (hb.out.1.trans hD) (hb.out.2.drew hD hwg))
                                           have q_hy1 := Lib.hid (hy1.out)
                                           clear hD hb hy1
                                           clear wd
                                           revert hy2; revert q_hy1; revert q_hb; revert we; revert y2; revert y1
                                           exact key35
                                         · skip
                                           go_simp
                                           refine hK _ _ ?_
                                           clear hK K
                                           have hD : Drew wd g (wd.alloc (.cells #[] 69)) := Drew.of_ext hb.out.1.1 ((Ext.refl _).alloc _)
                                           have hN := Lib.hid ((OwnG.lit layName 69 wd (Nat.le_of_lt hb.out.2.lt) [] #[] rfl (by simp) : OwnG layName 69 (wd.alloc (.cells #[] 69)) w.heap.size (some ⟨wd.heap.size, 0, none⟩) 0 0 []))
                                           generalize wd.alloc (.cells #[] 69) = we at hD hN ⊢
                                           generalize wd.heap.size = bN at hN ⊢
                                           try simp only [Act.put, List.setIfInBounds_toArray, List.set_cons_zero, List.set_cons_succ]
                                           have q_hb := Lib.hid (And.intro (hb.out.1.trans hD) (hb.out.2.drew hD hwg))
                                           have q_hy1 := Lib.hid (hy1.out)
                                           clear hD hb hy1
                                           clear wd
                                           revert hN; revert q_hy1; revert q_hb; revert we; revert bN; revert y1
                                           exact key37
                                         · skip
                                           go_simp
                                           refine hK _ _ ?_
                                           clear hK K
                                           have hD : Drew wd g (wd.alloc (.cells #[.string ⟨#[]⟩, .int .i64 0, .int .i64 0, .int .i64 0, .slice none 0 0] 67)) := Drew.of_ext hb.out.1.1 ((Ext.refl _).alloc _)
                                           have hP := Lib.hid (And.intro (Box.new wd #[.string ⟨#[]⟩, .int .i64 0, .int .i64 0, .int .i64 0, .slice none 0 0] 67) hb.out.2.lt)
                                           generalize wd.alloc (.cells #[.string ⟨#[]⟩, .int .i64 0, .int .i64 0, .int .i64 0, .slice none 0 0] 67) = we at hD hP ⊢
                                           generalize wd.heap.size = bP at hP ⊢
                                           try simp only [Act.put, List.setIfInBounds_toArray, List.set_cons_zero, List.set_cons_succ]
                                           have q_hb := Lib.hid (And.intro (hb.out.1.trans hD) (hb.out.2.drew hD hwg))
                                           have q_hy1 := Lib.hid (hy1.out)
                                           clear hD hb hy1
                                           clear wd
                                           revert hP; revert q_hy1; revert q_hb; revert we; revert bP; revert y1
                                           exact key38
                                        intro y1 bP wd hb hy1 hP
                                        refine wpAny_ready (rs := [0, 6, 11]) (by kernel_rfl) (by simp) ?_
                                        refine AllReady.cons rfl (fun K hK => ?_) (AllReady.cons rfl (fun K hK => ?_) (AllReady.cons rfl (fun K hK => ?_) AllReady.nil))
                                        · skip
                                          go_simp
                                          refine hK _ _ ?_
                                          clear hK K
                                          have hD : Drew wd g (wd.alloc (.cells #[.string ⟨#[97, 115, 104]⟩, .string ⟨#[98, 114, 105, 103]⟩, .string ⟨#[99, 111, 114, 107]⟩, .string ⟨#[100, 101, 118, 97]⟩, .string ⟨#[101, 108, 121]⟩, .string ⟨#[102, 105, 102, 101]⟩, .string ⟨#[103, 97, 116, 101]⟩, .string ⟨#[104, 117, 108, 108]⟩] 9)) := Drew.of_ext hb.out.1.1 ((Ext.refl _).alloc _)
                                          have hL := Lib.hid (And.intro (Box.new wd #[.string ⟨#[97, 115, 104]⟩, .string ⟨#[98, 114, 105, 103]⟩, .string ⟨#[99, 111, 114, 107]⟩, .string ⟨#[100, 101, 118, 97]⟩, .string ⟨#[101, 108, 121]⟩, .string ⟨#[102, 105, 102, 101]⟩, .string ⟨#[103, 97, 116, 101]⟩, .string ⟨#[104, 117, 108, 108]⟩] 9) (Nat.ne_of_gt hb.out.1.1.lt))
                                          generalize wd.alloc (.cells #[.string ⟨#[97, 115, 104]⟩, .string ⟨#[98, 114, 105, 103]⟩, .string ⟨#[99, 111, 114, 107]⟩, .string ⟨#[100, 101, 118, 97]⟩, .string ⟨#[101, 108, 121]⟩, .string ⟨#[102, 105, 102, 101]⟩, .string ⟨#[103, 97, 116, 101]⟩, .string ⟨#[104, 117, 108, 108]⟩] 9) = we at hD hL ⊢
                                          generalize wd.heap.size = bL at hL ⊢
                                          try simp only [Act.put, List.setIfInBounds_toArray, List.set_cons_zero, List.set_cons_succ]
                                          have q_hb := Lib.hid (And.intro (hb.out.1.trans hD) (hb.out.2.drew hD hwg))
                                          have q_hy1 := Lib.hid (hy1.out)
                                          have q_hP := Lib.hid (And.intro (hP.out.1.drew hD (Nat.ne_of_gt (Nat.lt_trans hg hP.out.2))) hP.out.2)
                                          clear hD hb hy1 hP
                                          clear wd
                                          have hy1i := (show (y1 : Int) < 8 from Int.ofNat_lt.2 q_hy1.out)
                                          refine takeYes 3 10 ?v5 rfl rfl (by kernel_rfl) (by kernel_rfl) (by kernel_rfl) (fun _ _ _ _ h => h) (by kernel_rfl) ?y5 ?r5
                                          case y5 => intro w; go_simp; first | done | with_reducible rfl
                                          simp only [Act.put, List.setIfInBounds_toArray, List.set_cons_zero, List.set_cons_succ]
                                          clear hy1i
                                          revert q_hP; revert q_hy1; revert hL; revert q_hb; revert we; revert bP; revert y1; revert bL
                                          exact key22
                                        · skip
                                          go_simp
                                          refine (l01Next_any _ _ _ hb.out.1.1 (by decide)).mono ?_
                                          rintro e we ⟨z2, rfl, hz0, hz1, hD0⟩
                                          obtain ⟨y2, rfl, hyn⟩ := pick_nat 6 rfl (by decide) hz0 hz1
                                          have hy2 := Lib.hid hyn
                                          have hD := hD0.drew
                                          clear hz0 hz1 hD0 hyn
                                          go_wp2_with fail
                                          try simp only [Act.put, List.setIfInBounds_toArray, List.set_cons_zero, List.set_cons_succ]
                                          have q_hb := Lib.hid (And.intro (hb.out.1.trans hD) (hb.out.2.drew hD hwg))
                                          have q_hy1 := Lib.hid (hy1.out)
                                          have q_hP := Lib.hid (And.intro (hP.out.1.drew hD (Nat.ne_of_gt (Nat.lt_trans hg hP.out.2))) hP.out.2)
                                          clear hD hb hy1 hP
                                          clear wd
                                          revert q_hP; revert hy2; revert q_hy1; revert q_hb; revert we; revert bP; revert y2; revert y1
                                          exact key34
                                        · skip
                                          go_simp
                                          refine hK _ _ ?_
                                          clear hK K
                                          have hD : Drew wd g (wd.alloc (.cells #[] 69)) := Drew.of_ext hb.out.1.1 ((Ext.refl _).alloc _)
                                          have hN := Lib.hid ((OwnG.lit layName 69 wd (Nat.le_of_lt hb.out.2.lt) [] #[] rfl (by simp) : OwnG layName 69 (wd.alloc (.cells #[] 69)) w.heap.size (some ⟨wd.heap.size, 0, none⟩) 0 0 []))
                                          generalize wd.alloc (.cells #[] 69) = we at hD hN ⊢
                                          generalize wd.heap.size = bN at hN ⊢
                                          try simp only [Act.put, List.setIfInBounds_toArray, List.set_cons_zero, List.set_cons_succ]
                                          have q_hb := Lib.hid (And.intro (hb.out.1.trans hD) (hb.out.2.drew hD hwg))
                                          have q_hy1 := Lib.hid (hy1.out)
                                          have q_hP := Lib.hid (And.intro (hP.out.1.drew hD (Nat.ne_of_gt (Nat.lt_trans hg hP.out.2))) hP.out.2)
                                          clear hD hb hy1 hP
                                          clear wd
                                          revert q_hP; revert hN; revert q_hy1; revert q_hb; revert we; revert bP; revert bN; revert y1
                                          exact key36
                                       intro y1 bN wd hb hy1 hN
                                       refine wpAny_ready (rs := [0, 6, 13]) (by kernel_rfl) (by simp) ?_
                                       refine AllReady.cons rfl (fun K hK => ?_) (AllReady.cons rfl (fun K hK => ?_) (AllReady.cons rfl (fun K hK => ?_) AllReady.nil))
                                       · skip
                                         go_simp
                                         refine hK _ _ ?_
                                         clear hK K
                                         have hD : Drew wd g (wd.alloc (.cells #[.string ⟨#[97, 115, 104]⟩, .string ⟨#[98, 114, 105, 103]⟩, .string ⟨#[99, 111, 114, 107]⟩, .string ⟨#[100, 101, 118, 97]⟩, .string ⟨#[101, 108, 121]⟩, .string ⟨#[102, 105, 102, 101]⟩, .string ⟨#[103, 97, 116, 101]⟩, .string ⟨#[104, 117, 108, 108]⟩] 9)) := Drew.of_ext hb.out.1.1 ((Ext.refl _).alloc _)
                                         have hL := Lib.hid (And.intro (Box.new wd #[.string ⟨#[97, 115, 104]⟩, .string ⟨#[98, 114, 105, 103]⟩, .string ⟨#[99, 111, 114, 107]⟩, .string ⟨#[100, 101, 118, 97]⟩, .string ⟨#[101, 108, 121]⟩, .string ⟨#[102, 105, 102, 101]⟩, .string ⟨#[103, 97, 116, 101]⟩, .string ⟨#[104, 117, 108, 108]⟩] 9) (Nat.ne_of_gt hb.out.1.1.lt))
                                         generalize wd.alloc (.cells #[.string ⟨#[97, 115, 104]⟩, .string ⟨#[98, 114, 105, 103]⟩, .string ⟨#[99, 111, 114, 107]⟩, .string ⟨#[100, 101, 118, 97]⟩, .string ⟨#[101, 108, 121]⟩, .string ⟨#[102, 105, 102, 101]⟩, .string ⟨#[103, 97, 116, 101]⟩, .string ⟨#[104, 117, 108, 108]⟩] 9) = we at hD hL ⊢
                                         generalize wd.heap.size = bL at hL ⊢
                                         try simp only [Act.put, List.setIfInBounds_toArray, List.set_cons_zero, List.set_cons_succ]
                                         have q_hb := Lib.hid (And.intro (hb.out.1.trans hD) (hb.out.2.drew hD hwg))
                                         have q_hy1 := Lib.hid (hy1.out)
                                         have q_hN := Lib.hid (hN.out.drawn hD.2 hg)
                                         clear hD hb hy1 hN
                                         clear wd
                                         have hy1i := (show (y1 : Int) < 8 from Int.ofNat_lt.2 q_hy1.out)
                                         refine takeYes 3 10 ?v6 rfl rfl (by kernel_rfl) (by kernel_rfl) (by kernel_rfl) (fun _ _ _ _ h => h) (by kernel_rfl) ?y6 ?r6
                                         case y6 => intro w; go_simp; first | done | with_reducible rfl
                                         simp only [Act.put, List.setIfInBounds_toArray, List.set_cons_zero, List.set_cons_succ]
                                         clear hy1i
                                         revert q_hN; revert q_hy1; revert hL; revert q_hb; revert we; revert bN; revert y1; revert bL
                                         exact key21
                                       · skip
                                         go_simp
                                         refine (l01Next_any _ _ _ hb.out.1.1 (by decide)).mono ?_
                                         rintro e we ⟨z2, rfl, hz0, hz1, hD0⟩
                                         obtain ⟨y2, rfl, hyn⟩ := pick_nat 6 rfl (by decide) hz0 hz1
                                         have hy2 := Lib.hid hyn
                                         have hD := hD0.drew
                                         clear hz0 hz1 hD0 hyn
                                         go_wp2_with fail
                                         try simp only [Act.put, List.setIfInBounds_toArray, List.set_cons_zero, List.set_cons_succ]
                                         have q_hb := Lib.hid (And.intro (hb.out.1.trans hD) (hb.out.2.drew hD hwg))
                                         have q_hy1 := Lib.hid (hy1.out)
                                         have q_hN := Lib.hid (hN.out.drawn hD.2 hg)
                                         clear hD hb hy1 hN
                                         clear wd
                                         revert q_hN; revert hy2; revert q_hy1; revert q_hb; revert we; revert bN; revert y2; revert y1
                                         exact key33
                                       · skip
                                         go_simp
                                         refine hK _ _ ?_
                                         clear hK K
                                         have hD : Drew wd g (wd.alloc (.cells #[.string ⟨#[]⟩, .int .i64 0, .int .i64 0, .int .i64 0, .slice none 0 0] 67)) := Drew.of_ext hb.out.1.1 ((Ext.refl _).alloc _)
                                         have hP := Lib.hid (And.intro (Box.new wd #[.string ⟨#[]⟩, .int .i64 0, .int .i64 0, .int .i64 0, .slice none 0 0] 67) hb.out.2.lt)
                                         generalize wd.alloc (.cells #[.string ⟨#[]⟩, .int .i64 0, .int .i64 0, .int .i64 0, .slice none 0 0] 67) = we at hD hP ⊢
                                         generalize wd.heap.size = bP at hP ⊢
                                         try simp only [Act.put, List.setIfInBounds_toArray, List.set_cons_zero, List.set_cons_succ]
                                         have q_hb := Lib.hid (And.intro (hb.out.1.trans hD) (hb.out.2.drew hD hwg))
                                         have q_hy1 := Lib.hid (hy1.out)
                                         have q_hN := Lib.hid (hN.out.drawn hD.2 hg)
                                         clear hD hb hy1 hN
                                         clear wd
                                         revert hP; revert q_hN; revert q_hy1; revert q_hb; revert we; revert bP; revert bN; revert y1
                                         exact key36
                                      intro y1 bN bP wd hb hy1 hN hP
                                      refine wpAny_ready (rs := [0, 6]) (by kernel_rfl) (by simp) ?_
                                      refine AllReady.cons rfl (fun K hK => ?_) (AllReady.cons rfl (fun K hK => ?_) AllReady.nil)
                                      · skip
                                        go_simp
                                        refine hK _ _ ?_
                                        clear hK K
                                        have hD : Drew wd g (wd.alloc (.cells #[.string ⟨#[97, 115, 104]⟩, .string ⟨#[98, 114, 105, 103]⟩, .string ⟨#[99, 111, 114, 107]⟩, .string ⟨#[100, 101, 118, 97]⟩, .string ⟨#[101, 108, 121]⟩, .string ⟨#[102, 105, 102, 101]⟩, .string ⟨#[103, 97, 116, 101]⟩, .string ⟨#[104, 117, 108, 108]⟩] 9)) := Drew.of_ext hb.out.1.1 ((Ext.refl _).alloc _)
                                        have hL := Lib.hid (And.intro (Box.new wd #[.string ⟨#[97, 115, 104]⟩, .string ⟨#[98, 114, 105, 103]⟩, .string ⟨#[99, 111, 114, 107]⟩, .string ⟨#[100, 101, 118, 97]⟩, .string ⟨#[101, 108, 121]⟩, .string ⟨#[102, 105, 102, 101]⟩, .string ⟨#[103, 97, 116, 101]⟩, .string ⟨#[104, 117, 108, 108]⟩] 9) (Nat.ne_of_gt hb.out.1.1.lt))
                                        generalize wd.alloc (.cells #[.string ⟨#[97, 115, 104]⟩, .string ⟨#[98, 114, 105, 103]⟩, .string ⟨#[99, 111, 114, 107]⟩, .string ⟨#[100, 101, 118, 97]⟩, .string ⟨#[101, 108, 121]⟩, .string ⟨#[102, 105, 102, 101]⟩, .string ⟨#[103, 97, 116, 101]⟩, .string ⟨#[104, 117, 108, 108]⟩] 9) = we at hD hL ⊢
                                        generalize wd.heap.size = bL at hL ⊢
                                        try simp only [Act.put, List.setIfInBounds_toArray, List.set_cons_zero, List.set_cons_succ]
                                        have q_hb := Lib.hid (And.intro (hb.out.1.trans hD) (hb.out.2.drew hD hwg))
                                        have q_hy1 := Lib.hid (hy1.out)
                                        have q_hN := Lib.hid (hN.out.drawn hD.2 hg)
                                        have q_hP := Lib.hid (And.intro (hP.out.1.drew hD (Nat.ne_of_gt (Nat.lt_trans hg hP.out.2))) hP.out.2)
                                        clear hD hb hy1 hN hP
                                        clear wd
                                        have hy1i := (show (y1 : Int) < 8 from Int.ofNat_lt.2 q_hy1.out)
                                        refine takeYes 3 10 ?v7 rfl rfl (by kernel_rfl) (by kernel_rfl) (by kernel_rfl) (fun _ _ _ _ h => h) (by kernel_rfl) ?y7 ?r7
                                        case y7 => intro w; go_simp; first | done | with_reducible rfl
                                        simp only [Act.put, List.setIfInBounds_toArray, List.set_cons_zero, List.set_cons_succ]
                                        clear hy1i
                                        revert q_hP; revert q_hN; revert q_hy1; revert hL; revert q_hb; revert we; revert bP; revert bN; revert y1; revert bL
                                        exact key20
                                      · skip
                                        go_simp
                                        refine (l01Next_any _ _ _ hb.out.1.1 (by decide)).mono ?_
                                        rintro e we ⟨z2, rfl, hz0, hz1, hD0⟩
                                        obtain ⟨y2, rfl, hyn⟩ := pick_nat 6 rfl (by decide) hz0 hz1
                                        have hy2 := Lib.hid hyn
                                        have hD := hD0.drew
                                        clear hz0 hz1 hD0 hyn
                                        go_wp2_with fail
                                        try simp only [Act.put, List.setIfInBounds_toArray, List.set_cons_zero, List.set_cons_succ]
                                        have q_hb := Lib.hid (And.intro (hb.out.1.trans hD) (hb.out.2.drew hD hwg))
                                        have q_hy1 := Lib.hid (hy1.out)
                                        have q_hN := Lib.hid (hN.out.drawn hD.2 hg)
                                        have q_hP := Lib.hid (And.intro (hP.out.1.drew hD (Nat.ne_of_gt (Nat.lt_trans hg hP.out.2))) hP.out.2)
                                        clear hD hb hy1 hN hP
                                        clear wd
                                        revert q_hP; revert q_hN; revert hy2; revert q_hy1; revert q_hb; revert we; revert bP; revert bN; revert y2; revert y1
                                        exact key32
                                     intro y1 y2 wd hb hy1 hy2
                                     refine wpAny_ready (rs := [0, 8, 11, 13]) (by kernel_rfl) (by simp) ?_
                                     refine AllReady.cons rfl (fun K hK => ?_) (AllReady.cons rfl (fun K hK => ?_) (AllReady.cons rfl (fun K hK => ?_) (AllReady.cons rfl (fun K hK => ?_) AllReady.nil)))
                                     · skip
                                       go_simp
                                       refine hK _ _ ?_
                                       clear hK K
                                       have hD : Drew wd g (wd.alloc (.cells #[.string ⟨#[97, 115, 104]⟩, .string ⟨#[98, 114, 105, 103]⟩, .string ⟨#[99, 111, 114, 107]⟩, .string ⟨#[100, 101, 118, 97]⟩, .string ⟨#[101, 108, 121]⟩, .string ⟨#[102, 105, 102, 101]⟩, .string ⟨#[103, 97, 116, 101]⟩, .string ⟨#[104, 117, 108, 108]⟩] 9)) := Drew.of_ext hb.out.1.1 ((Ext.refl _).alloc _)
                                       have hL := Lib.hid (And.intro (Box.new wd #[.string ⟨#[97, 115, 104]⟩, .string ⟨#[98, 114, 105, 103]⟩, .string ⟨#[99, 111, 114, 107]⟩, .string ⟨#[100, 101, 118, 97]⟩, .string ⟨#[101, 108, 121]⟩, .string ⟨#[102, 105, 102, 101]⟩, .string ⟨#[103, 97, 116, 101]⟩, .string ⟨#[104, 117, 108, 108]⟩] 9) (Nat.ne_of_gt hb.out.1.1.lt))
                                       generalize wd.alloc (.cells #[.string ⟨#[97, 115, 104]⟩, .string ⟨#[98, 114, 105, 103]⟩, .string ⟨#[99, 111, 114, 107]⟩, .string ⟨#[100, 101, 118, 97]⟩, .string ⟨#[101, 108, 121]⟩, .string ⟨#[102, 105, 102, 101]⟩, .string ⟨#[103, 97, 116, 101]⟩, .string ⟨#[104, 117, 108, 108]⟩] 9) = we at hD hL ⊢
                                       generalize wd.heap.size = bL at hL ⊢
                                       try simp only [Act.put, List.setIfInBounds_toArray, List.set_cons_zero, List.set_cons_succ]
                                       have q_hb := Lib.hid (And.intro (hb.out.1.trans hD) (hb.out.2.drew hD hwg))
                                       have q_hy1 := Lib.hid (hy1.out)
                                       have q_hy2 := Lib.hid (hy2.out)
                                       clear hD hb hy1 hy2
                                       clear wd
                                       have hy1i := (show (y1 : Int) < 8 from Int.ofNat_lt.2 q_hy1.out)
                                       refine takeYes 3 10 ?v8 rfl rfl (by kernel_rfl) (by kernel_rfl) (by kernel_rfl) (fun _ _ _ _ h => h) (by kernel_rfl) ?y8 ?r8
                                       case y8 => intro w; go_simp; first | done | with_reducible rfl
                                       simp only [Act.put, List.setIfInBounds_toArray, List.set_cons_zero, List.set_cons_succ]
                                       clear hy1i
                                       revert q_hy2; revert q_hy1; revert hL; revert q_hb; revert we; revert y2; revert y1; revert bL
                                       exact key19
                                     · skip
                                       go_simp
                                       refine (l01Next_any _ _ _ hb.out.1.1 (by decide)).mono ?_
                                       rintro e we ⟨z3, rfl, hz0, hz1, hD0⟩
                                       obtain ⟨y3, rfl, hyn⟩ := pick_nat 600 rfl (by decide) hz0 hz1
                                       have hy3 := Lib.hid hyn
                                       have hD := hD0.drew
                                       clear hz0 hz1 hD0 hyn
                                       go_wp2_with fail
                                       try simp only [Act.put, List.setIfInBounds_toArray, List.set_cons_zero, List.set_cons_succ]
                                       have q_hb := Lib.hid (And.intro (hb.out.1.trans hD) (hb.out.2.drew hD hwg))
                                       have q_hy1 := Lib.hid (hy1.out)
                                       have q_hy2 := Lib.hid (hy2.out)
                                       clear hD hb hy1 hy2
                                       clear wd
                                       have hy3i := (show IntKind.i64.wrap (1000 + (y3 : Int)) = 1000 + (y3 : Int) from IntWalk.i64_in _ (addy hy3.out))
                                       refine takeYes 9 16 ?v9 rfl rfl (by kernel_rfl) (by kernel_rfl) (by kernel_rfl) (fun _ _ _ _ h => h) (by kernel_rfl) ?y9 ?r9
                                       case y9 => intro w; go_simp; first | done | with_reducible rfl
                                       simp only [Act.put, List.setIfInBounds_toArray, List.set_cons_zero, List.set_cons_succ]
                                       refine takeYes 10 17 ?v10 rfl rfl (by kernel_rfl) (by kernel_rfl) (by kernel_rfl) (fun _ _ _ _ h => h) (by kernel_rfl) ?y10 ?r10
                                       case y10 => intro w; go_simp; first | done | with_reducible rfl
                                       simp only [Act.put, List.setIfInBounds_toArray, List.set_cons_zero, List.set_cons_succ]
                                       clear hy3i
                                       revert hy3; revert q_hy2; revert q_hy1; revert q_hb; revert we; revert y3; revert y2; revert y1
                                       exact key31
                                     · skip
                                       go_simp
                                       refine hK _ _ ?_
                                       clear hK K
                                       have hD : Drew wd g (wd.alloc (.cells #[] 69)) := Drew.of_ext hb.out.1.1 ((Ext.refl _).alloc _)
                                       have hN := Lib.hid ((OwnG.lit layName 69 wd (Nat.le_of_lt hb.out.2.lt) [] #[] rfl (by simp) : OwnG layName 69 (wd.alloc (.cells #[] 69)) w.heap.size (some ⟨wd.heap.size, 0, none⟩) 0 0 []))
                                       generalize wd.alloc (.cells #[] 69) = we at hD hN ⊢
                                       generalize wd.heap.size = bN at hN ⊢
                                       try simp only [Act.put, List.setIfInBounds_toArray, List.set_cons_zero, List.set_cons_succ]
                                       have q_hb := Lib.hid (And.intro (hb.out.1.trans hD) (hb.out.2.drew hD hwg))
                                       have q_hy1 := Lib.hid (hy1.out)
                                       have q_hy2 := Lib.hid (hy2.out)
                                       clear hD hb hy1 hy2
                                       clear wd
                                       revert hN; revert q_hy2; revert q_hy1; revert q_hb; revert we; revert bN; revert y2; revert y1
                                       exact key33
                                     · skip
                                       go_simp
                                       refine hK _ _ ?_
                                       clear hK K
                                       have hD : Drew wd g (wd.alloc (.cells #[.string ⟨#[]⟩, .int .i64 0, .int .i64 0, .int .i64 0, .slice none 0 0] 67)) := Drew.of_ext hb.out.1.1 ((Ext.refl _).alloc _)
                                       have hP := Lib.hid (And.intro (Box.new wd #[.string ⟨#[]⟩, .int .i64 0, .int .i64 0, .int .i64 0, .slice none 0 0] 67) hb.out.2.lt)
                                       generalize wd.alloc (.cells #[.string ⟨#[]⟩, .int .i64 0, .int .i64 0, .int .i64 0, .slice none 0 0] 67) = we at hD hP ⊢
                                       generalize wd.heap.size = bP at hP ⊢
                                       try simp only [Act.put, List.setIfInBounds_toArray, List.set_cons_zero, List.set_cons_succ]
                                       have q_hb := Lib.hid (And.intro (hb.out.1.trans hD) (hb.out.2.drew hD hwg))
                                       have q_hy1 := Lib.hid (hy1.out)
                                       have q_hy2 := Lib.hid (hy2.out)
                                       clear hD hb hy1 hy2
                                       clear wd
                                       revert hP; revert q_hy2; revert q_hy1; revert q_hb; revert we; revert bP; revert y2; revert y1
                                       exact key34
                                    intro y1 y2 bP wd hb hy1 hy2 hP
                                    refine wpAny_ready (rs := [0, 8, 11]) (by kernel_rfl) (by simp) ?_
                                    refine AllReady.cons rfl (fun K hK => ?_) (AllReady.cons rfl (fun K hK => ?_) (AllReady.cons rfl (fun K hK => ?_) AllReady.nil))
                                    · skip
                                      go_simp
                                      refine hK _ _ ?_
                                      clear hK K
                                      have hD : Drew wd g (wd.alloc (.cells #[.string ⟨#[97, 115, 104]⟩, .string ⟨#[98, 114, 105, 103]⟩, .string ⟨#[99, 111, 114, 107]⟩, .string ⟨#[100, 101, 118, 97]⟩, .string ⟨#[101, 108, 121]⟩, .string ⟨#[102, 105, 102, 101]⟩, .string ⟨#[103, 97, 116, 101]⟩, .string ⟨#[104, 117, 108, 108]⟩] 9)) := Drew.of_ext hb.out.1.1 ((Ext.refl _).alloc _)
                                      have hL := Lib.hid (And.intro (Box.new wd #[.string ⟨#[97, 115, 104]⟩, .string ⟨#[98, 114, 105, 103]⟩, .string ⟨#[99, 111, 114, 107]⟩, .string ⟨#[100, 101, 118, 97]⟩, .string ⟨#[101, 108, 121]⟩, .string ⟨#[102, 105, 102, 101]⟩, .string ⟨#[103, 97, 116, 101]⟩, .string ⟨#[104, 117, 108, 108]⟩] 9) (Nat.ne_of_gt hb.out.1.1.lt))
                                      generalize wd.alloc (.cells #[.string ⟨#[97, 115, 104]⟩, .string ⟨#[98, 114, 105, 103]⟩, .string ⟨#[99, 111, 114, 107]⟩, .string ⟨#[100, 101, 118, 97]⟩, .string ⟨#[101, 108, 121]⟩, .string ⟨#[102, 105, 102, 101]⟩, .string ⟨#[103, 97, 116, 101]⟩, .string ⟨#[104, 117, 108, 108]⟩] 9) = we at hD hL ⊢
                                      generalize wd.heap.size = bL at hL ⊢
                                      try simp only [Act.put, List.setIfInBounds_toArray, List.set_cons_zero, List.set_cons_succ]
                                      have q_hb := Lib.hid (And.intro (hb.out.1.trans hD) (hb.out.2.drew hD hwg))
                                      have q_hy1 := Lib.hid (hy1.out)
                                      have q_hy2 := Lib.hid (hy2.out)
                                      have q_hP := Lib.hid (And.intro (hP.out.1.drew hD (Nat.ne_of_gt (Nat.lt_trans hg hP.out.2))) hP.out.2)
                                      clear hD hb hy1 hy2 hP
                                      clear wd
                                      have hy1i := (show (y1 : Int) < 8 from Int.ofNat_lt.2 q_hy1.out)
                                      refine takeYes 3 10 ?v11 rfl rfl (by kernel_rfl) (by kernel_rfl) (by kernel_rfl) (fun _ _ _ _ h => h) (by kernel_rfl) ?y11 ?r11
                                      case y11 => intro w; go_simp; first | done | with_reducible rfl
                                      simp only [Act.put, List.setIfInBounds_toArray, List.set_cons_zero, List.set_cons_succ]
                                      clear hy1i
                                      revert q_hP; revert q_hy2; revert q_hy1; revert hL; revert q_hb; revert we; revert bP; revert y2; revert y1; revert bL
                                      exact key18
                                    · skip
                                      go_simp
                                      refine (l01Next_any _ _ _ hb.out.1.1 (by decide)).mono ?_
                                      rintro e we ⟨z3, rfl, hz0, hz1, hD0⟩
                                      obtain ⟨y3, rfl, hyn⟩ := pick_nat 600 rfl (by decide) hz0 hz1
                                      have hy3 := Lib.hid hyn
                                      have hD := hD0.drew
                                      clear hz0 hz1 hD0 hyn
                                      go_wp2_with fail
                                      try simp only [Act.put, List.setIfInBounds_toArray, List.set_cons_zero, List.set_cons_succ]
                                      have q_hb := Lib.hid (And.intro (hb.out.1.trans hD) (hb.out.2.drew hD hwg))
                                      have q_hy1 := Lib.hid (hy1.out)
                                      have q_hy2 := Lib.hid (hy2.out)
                                      have q_hP := Lib.hid (And.intro (hP.out.1.drew hD (Nat.ne_of_gt (Nat.lt_trans hg hP.out.2))) hP.out.2)
                                      clear hD hb hy1 hy2 hP
                                      clear wd
                                      have hy3i := (show IntKind.i64.wrap (1000 + (y3 : Int)) = 1000 + (y3 : Int) from IntWalk.i64_in _ (addy hy3.out))
                                      refine takeYes 9 16 ?v12 rfl rfl (by kernel_rfl) (by kernel_rfl) (by kernel_rfl) (fun _ _ _ _ h => h) (by kernel_rfl) ?y12 ?r12
                                      case y12 => intro w; go_simp; first | done | with_reducible rfl
                                      simp only [Act.put, List.setIfInBounds_toArray, List.set_cons_zero, List.set_cons_succ]
                                      refine takeYes 10 17 ?v13 rfl rfl (by kernel_rfl) (by kernel_rfl) (by kernel_rfl) (fun _ _ _ _ h => h) (by kernel_rfl) ?y13 ?r13
                                      case y13 => intro w; go_simp; first | done | with_reducible rfl
                                      simp only [Act.put, List.setIfInBounds_toArray, List.set_cons_zero, List.set_cons_succ]
                                      clear hy3i
                                      revert q_hP; revert hy3; revert q_hy2; revert q_hy1; revert q_hb; revert we; revert bP; revert y3; revert y2; revert y1
                                      exact key30
                                    · skip
                                      go_simp
                                      refine hK _ _ ?_
                                      clear hK K
                                      have hD : Drew wd g (wd.alloc (.cells #[] 69)) := Drew.of_ext hb.out.1.1 ((Ext.refl _).alloc _)
                                      have hN := Lib.hid ((OwnG.lit layName 69 wd (Nat.le_of_lt hb.out.2.lt) [] #[] rfl (by simp) : OwnG layName 69 (wd.alloc (.cells #[] 69)) w.heap.size (some ⟨wd.heap.size, 0, none⟩) 0 0 []))
                                      generalize wd.alloc (.cells #[] 69) = we at hD hN ⊢
                                      generalize wd.heap.size = bN at hN ⊢
                                      try simp only [Act.put, List.setIfInBounds_toArray, List.set_cons_zero, List.set_cons_succ]
                                      have q_hb := Lib.hid (And.intro (hb.out.1.trans hD) (hb.out.2.drew hD hwg))
                                      have q_hy1 := Lib.hid (hy1.out)
                                      have q_hy2 := Lib.hid (hy2.out)
                                      have q_hP := Lib.hid (And.intro (hP.out.1.drew hD (Nat.ne_of_gt (Nat.lt_trans hg hP.out.2))) hP.out.2)
                                      clear hD hb hy1 hy2 hP
                                      clear wd
                                      revert q_hP; revert hN; revert q_hy2; revert q_hy1; revert q_hb; revert we; revert bP; revert bN; revert y2; revert y1
                                      exact key32
                                   intro y1 y2 bN wd hb hy1 hy2 hN
                                   refine wpAny_ready (rs := [0, 8, 13]) (by kernel_rfl) (by simp) ?_
                                   refine AllReady.cons rfl (fun K hK => ?_) (AllReady.cons rfl (fun K hK => ?_) (AllReady.cons rfl (fun K hK => ?_) AllReady.nil))
                                   · skip
                                     go_simp
                                     refine hK _ _ ?_
                                     clear hK K
                                     have hD : Drew wd g (wd.alloc (.cells #[.string ⟨#[97, 115, 104]⟩, .string ⟨#[98, 114, 105, 103]⟩, .string ⟨#[99, 111, 114, 107]⟩, .string ⟨#[100, 101, 118, 97]⟩, .string ⟨#[101, 108, 121]⟩, .string ⟨#[102, 105, 102, 101]⟩, .string ⟨#[103, 97, 116, 101]⟩, .string ⟨#[104, 117, 108, 108]⟩] 9)) := Drew.of_ext hb.out.1.1 ((Ext.refl _).alloc _)
                                     have hL := Lib.hid (And.intro (Box.new wd #[.string ⟨#[97, 115, 104]⟩, .string ⟨#[98, 114, 105, 103]⟩, .string ⟨#[99, 111, 114, 107]⟩, .string ⟨#[100, 101, 118, 97]⟩, .string ⟨#[101, 108, 121]⟩, .string ⟨#[102, 105, 102, 101]⟩, .string ⟨#[103, 97, 116, 101]⟩, .string ⟨#[104, 117, 108, 108]⟩] 9) (Nat.ne_of_gt hb.out.1.1.lt))
                                     generalize wd.alloc (.cells #[.string ⟨#[97, 115, 104]⟩, .string ⟨#[98, 114, 105, 103]⟩, .string ⟨#[99, 111, 114, 107]⟩, .string ⟨#[100, 101, 118, 97]⟩, .string ⟨#[101, 108, 121]⟩, .string ⟨#[102, 105, 102, 101]⟩, .string ⟨#[103, 97, 116, 101]⟩, .string ⟨#[104, 117, 108, 108]⟩] 9) = we at hD hL ⊢
                                     generalize wd.heap.size = bL at hL ⊢
                                     try simp only [Act.put, List.setIfInBounds_toArray, List.set_cons_zero, List.set_cons_succ]
                                     have q_hb := Lib.hid (And.intro (hb.out.1.trans hD) (hb.out.2.drew hD hwg))
                                     have q_hy1 := Lib.hid (hy1.out)
                                     have q_hy2 := Lib.hid (hy2.out)
                                     have q_hN := Lib.hid (hN.out.drawn hD.2 hg)
                                     clear hD hb hy1 hy2 hN
                                     clear wd
                                     have hy1i := (show (y1 : Int) < 8 from Int.ofNat_lt.2 q_hy1.out)
                                     refine takeYes 3 10 ?v14 rfl rfl (by kernel_rfl) (by kernel_rfl) (by kernel_rfl) (fun _ _ _ _ h => h) (by kernel_rfl) ?y14 ?r14
                                     case y14 => intro w; go_simp; first | done | with_reducible rfl
                                     simp only [Act.put, List.setIfInBounds_toArray, List.set_cons_zero, List.set_cons_succ]
                                     clear hy1i
                                     revert q_hN; revert q_hy2; revert q_hy1; revert hL; revert q_hb; revert we; revert bN; revert y2; revert y1; revert bL
                                     exact key17
                                   · skip
                                     go_simp
                                     refine (l01Next_any _ _ _ hb.out.1.1 (by decide)).mono ?_
                                     rintro e we ⟨z3, rfl, hz0, hz1, hD0⟩
                                     obtain ⟨y3, rfl, hyn⟩ := pick_nat 600 rfl (by decide) hz0 hz1
                                     have hy3 := Lib.hid hyn
                                     have hD := hD0.drew
                                     clear hz0 hz1 hD0 hyn
                                     go_wp2_with fail
                                     try simp only [Act.put, List.setIfInBounds_toArray, List.set_cons_zero, List.set_cons_succ]
                                     have q_hb := Lib.hid (And.intro (hb.out.1.trans hD) (hb.out.2.drew hD hwg))
                                     have q_hy1 := Lib.hid (hy1.out)
                                     have q_hy2 := Lib.hid (hy2.out)
                                     have q_hN := Lib.hid (hN.out.drawn hD.2 hg)
                                     clear hD hb hy1 hy2 hN
                                     clear wd
                                     have hy3i := (show IntKind.i64.wrap (1000 + (y3 : Int)) = 1000 + (y3 : Int) from IntWalk.i64_in _ (addy hy3.out))
                                     refine takeYes 9 16 ?v15 rfl rfl (by kernel_rfl) (by kernel_rfl) (by kernel_rfl) (fun _ _ _ _ h => h) (by kernel_rfl) ?y15 ?r15
                                     case y15 => intro w; go_simp; first | done | with_reducible rfl
                                     simp only [Act.put, List.setIfInBounds_toArray, List.set_cons_zero, List.set_cons_succ]
                                     refine takeYes 10 17 ?v16 rfl rfl (by kernel_rfl) (by kernel_rfl) (by kernel_rfl) (fun _ _ _ _ h => h) (by kernel_rfl) ?y16 ?r16
                                     case y16 => intro w; go_simp; first | done | with_reducible rfl
                                     simp only [Act.put, List.setIfInBounds_toArray, List.set_cons_zero, List.set_cons_succ]
                                     clear hy3i
                                     revert q_hN; revert hy3; revert q_hy2; revert q_hy1; revert q_hb; revert we; revert bN; revert y3; revert y2; revert y1
                                     exact key29
                                   · skip
                                     go_simp
                                     refine hK _ _ ?_
                                     clear hK K
                                     have hD : Drew wd g (wd.alloc (.cells #[.string ⟨#[]⟩, .int .i64 0, .int .i64 0, .int .i64 0, .slice none 0 0] 67)) := Drew.of_ext hb.out.1.1 ((Ext.refl _).alloc _)
                                     have hP := Lib.hid (And.intro (Box.new wd #[.string ⟨#[]⟩, .int .i64 0, .int .i64 0, .int .i64 0, .slice none 0 0] 67) hb.out.2.lt)
                                     generalize wd.alloc (.cells #[.string ⟨#[]⟩, .int .i64 0, .int .i64 0, .int .i64 0, .slice none 0 0] 67) = we at hD hP ⊢
                                     generalize wd.heap.size = bP at hP ⊢
                                     try simp only [Act.put, List.setIfInBounds_toArray, List.set_cons_zero, List.set_cons_succ]
                                     have q_hb := Lib.hid (And.intro (hb.out.1.trans hD) (hb.out.2.drew hD hwg))
                                     have q_hy1 := Lib.hid (hy1.out)
                                     have q_hy2 := Lib.hid (hy2.out)
                                     have q_hN := Lib.hid (hN.out.drawn hD.2 hg)
                                     clear hD hb hy1 hy2 hN
                                     clear wd
                                     revert hP; revert q_hN; revert q_hy2; revert q_hy1; revert q_hb; revert we; revert bP; revert bN; revert y2; revert y1
                                     exact key32
                                  intro y1 y2 bN bP wd hb hy1 hy2 hN hP
                                  refine wpAny_ready (rs := [0, 8]) (by kernel_rfl) (by simp) ?_
                                  refine AllReady.cons rfl (fun K hK => ?_) (AllReady.cons rfl (fun K hK => ?_) AllReady.nil)
                                  · skip
                                    go_simp
                                    refine hK _ _ ?_
                                    clear hK K
                                    have hD : Drew wd g (wd.alloc (.cells #[.string ⟨#[97, 115, 104]⟩, .string ⟨#[98, 114, 105, 103]⟩, .string ⟨#[99, 111, 114, 107]⟩, .string ⟨#[100, 101, 118, 97]⟩, .string ⟨#[101, 108, 121]⟩, .string ⟨#[102, 105, 102, 101]⟩, .string ⟨#[103, 97, 116, 101]⟩, .string ⟨#[104, 117, 108, 108]⟩] 9)) := Drew.of_ext hb.out.1.1 ((Ext.refl _).alloc _)
                                    have hL := Lib.hid (And.intro (Box.new wd #[.string ⟨#[97, 115, 104]⟩, .string ⟨#[98, 114, 105, 103]⟩, .string ⟨#[99, 111, 114, 107]⟩, .string ⟨#[100, 101, 118, 97]⟩, .string ⟨#[101, 108, 121]⟩, .string ⟨#[102, 105, 102, 101]⟩, .string ⟨#[103, 97, 116, 101]⟩, .string ⟨#[104, 117, 108, 108]⟩] 9) (Nat.ne_of_gt hb.out.1.1.lt))
                                    generalize wd.alloc (.cells #[.string ⟨#[97, 115, 104]⟩, .string ⟨#[98, 114, 105, 103]⟩, .string ⟨#[99, 111, 114, 107]⟩, .string ⟨#[100, 101, 118, 97]⟩, .string ⟨#[101, 108, 121]⟩, .string ⟨#[102, 105, 102, 101]⟩, .string ⟨#[103, 97, 116, 101]⟩, .string ⟨#[104, 117, 108, 108]⟩] 9) = we at hD hL ⊢
                                    generalize wd.heap.size = bL at hL ⊢
                                    try simp only [Act.put, List.setIfInBounds_toArray, List.set_cons_zero, List.set_cons_succ]
                                    have q_hb := Lib.hid (And.intro (hb.out.1.trans hD) (hb.out.2.drew hD hwg))
                                    have q_hy1 := Lib.hid (hy1.out)
                                    have q_hy2 := Lib.hid (hy2.out)
                                    have q_hN := Lib.hid (hN.out.drawn hD.2 hg)
                                    have q_hP := Lib.hid (And.intro (hP.out.1.drew hD (Nat.ne_of_gt (Nat.lt_trans hg hP.out.2))) hP.out.2)
                                    clear hD hb hy1 hy2 hN hP
                                    clear wd
                                    have hy1i := (show (y1 : Int) < 8 from Int.ofNat_lt.2 q_hy1.out)
                                    refine takeYes 3 10 ?v17 rfl rfl (by kernel_rfl) (by kernel_rfl) (by kernel_rfl) (fun _ _ _ _ h => h) (by kernel_rfl) ?y17 ?r17
                                    case y17 => intro w; go_simp; first | done | with_reducible rfl
                                    simp only [Act.put, List.setIfInBounds_toArray, List.set_cons_zero, List.set_cons_succ]
                                    clear hy1i
                                    revert q_hP; revert q_hN; revert q_hy2; revert q_hy1; revert hL; revert q_hb; revert we; revert bP; revert bN; revert y2; revert y1; revert bL
                                    exact key16
                                  · skip
                                    go_simp
                                    refine (l01Next_any _ _ _ hb.out.1.1 (by decide)).mono ?_
                                    rintro e we ⟨z3, rfl, hz0, hz1, hD0⟩
                                    obtain ⟨y3, rfl, hyn⟩ := pick_nat 600 rfl (by decide) hz0 hz1
                                    have hy3 := Lib.hid hyn
                                    have hD := hD0.drew
                                    clear hz0 hz1 hD0 hyn
                                    go_wp2_with fail
                                    try simp only [Act.put, List.setIfInBounds_toArray, List.set_cons_zero, List.set_cons_succ]
                                    have q_hb := Lib.hid (And.intro (hb.out.1.trans hD) (hb.out.2.drew hD hwg))
                                    have q_hy1 := Lib.hid (hy1.out)
                                    have q_hy2 := Lib.hid (hy2.out)
                                    have q_hN := Lib.hid (hN.out.drawn hD.2 hg)
                                    have q_hP := Lib.hid (And.intro (hP.out.1.drew hD (Nat.ne_of_gt (Nat.lt_trans hg hP.out.2))) hP.out.2)
                                    clear hD hb hy1 hy2 hN hP
                                    clear wd
                                    have hy3i := (show IntKind.i64.wrap (1000 + (y3 : Int)) = 1000 + (y3 : Int) from IntWalk.i64_in _ (addy hy3.out))
                                    refine takeYes 9 16 ?v18 rfl rfl (by kernel_rfl) (by kernel_rfl) (by kernel_rfl) (fun _ _ _ _ h => h) (by kernel_rfl) ?y18 ?r18
                                    case y18 => intro w; go_simp; first | done | with_reducible rfl
                                    simp only [Act.put, List.setIfInBounds_toArray, List.set_cons_zero, List.set_cons_succ]
                                    refine takeYes 10 17 ?v19 rfl rfl (by kernel_rfl) (by kernel_rfl) (by kernel_rfl) (fun _ _ _ _ h => h) (by kernel_rfl) ?y19 ?r19
                                    case y19 => intro w; go_simp; first | done | with_reducible rfl
                                    simp only [Act.put, List.setIfInBounds_toArray, List.set_cons_zero, List.set_cons_succ]
                                    clear hy3i
                                    revert q_hP; revert q_hN; revert hy3; revert q_hy2; revert q_hy1; revert q_hb; revert we; revert bP; revert bN; revert y3; revert y2; revert y1
                                    exact key28
                                 intro y1 y2 y3 wd hb hy1 hy2 hy3
                                 refine wpAny_ready (rs := [0, 11, 13]) (by kernel_rfl) (by simp) ?_
                                 refine AllReady.cons rfl (fun K hK => ?_) (AllReady.cons rfl (fun K hK => ?_) (AllReady.cons rfl (fun K hK => ?_) AllReady.nil))
                                 · skip
                                   go_simp
                                   refine hK _ _ ?_
                                   clear hK K
                                   have hD : Drew wd g (wd.alloc (.cells #[.string ⟨#[97, 115, 104]⟩, .string ⟨#[98, 114, 105, 103]⟩, .string ⟨#[99, 111, 114, 107]⟩, .string ⟨#[100, 101, 118, 97]⟩, .string ⟨#[101, 108, 121]⟩, .string ⟨#[102, 105, 102, 101]⟩, .string ⟨#[103, 97, 116, 101]⟩, .string ⟨#[104, 117, 108, 108]⟩] 9)) := Drew.of_ext hb.out.1.1 ((Ext.refl _).alloc _)
                                   have hL := Lib.hid (And.intro (Box.new wd #[.string ⟨#[97, 115, 104]⟩, .string ⟨#[98, 114, 105, 103]⟩, .string ⟨#[99, 111, 114, 107]⟩, .string ⟨#[100, 101, 118, 97]⟩, .string ⟨#[101, 108, 121]⟩, .string ⟨#[102, 105, 102, 101]⟩, .string ⟨#[103, 97, 116, 101]⟩, .string ⟨#[104, 117, 108, 108]⟩] 9) (Nat.ne_of_gt hb.out.1.1.lt))
                                   generalize wd.alloc (.cells #[.string ⟨#[97, 115, 104]⟩, .string ⟨#[98, 114, 105, 103]⟩, .string ⟨#[99, 111, 114, 107]⟩, .string ⟨#[100, 101, 118, 97]⟩, .string ⟨#[101, 108, 121]⟩, .string ⟨#[102, 105, 102, 101]⟩, .string ⟨#[103, 97, 116, 101]⟩, .string ⟨#[104, 117, 108, 108]⟩] 9) = we at hD hL ⊢
                                   generalize wd.heap.size = bL at hL ⊢
                                   try simp only [Act.put, List.setIfInBounds_toArray, List.set_cons_zero, List.set_cons_succ]
                                   have q_hb := Lib.hid (And.intro (hb.out.1.trans hD) (hb.out.2.drew hD hwg))
                                   have q_hy1 := Lib.hid (hy1.out)
                                   have q_hy2 := Lib.hid (hy2.out)
                                   have q_hy3 := Lib.hid (hy3.out)
                                   clear hD hb hy1 hy2 hy3
                                   clear wd
                                   have hy1i := (show (y1 : Int) < 8 from Int.ofNat_lt.2 q_hy1.out)
                                   refine takeYes 3 10 ?v20 rfl rfl (by kernel_rfl) (by kernel_rfl) (by kernel_rfl) (fun _ _ _ _ h => h) (by kernel_rfl) ?y20 ?r20
                                   case y20 => intro w; go_simp; first | done | with_reducible rfl
                                   simp only [Act.put, List.setIfInBounds_toArray, List.set_cons_zero, List.set_cons_succ]
                                   clear hy1i
                                   revert q_hy3; revert q_hy2; revert q_hy1; revert hL; revert q_hb; revert we; revert y3; revert y2; revert y1; revert bL
                                   exact key15
                                 · skip
                                   go_simp
                                   refine hK _ _ ?_
                                   clear hK K
                                   have hD : Drew wd g (wd.alloc (.cells #[] 69)) := Drew.of_ext hb.out.1.1 ((Ext.refl _).alloc _)
                                   have hN := Lib.hid ((OwnG.lit layName 69 wd (Nat.le_of_lt hb.out.2.lt) [] #[] rfl (by simp) : OwnG layName 69 (wd.alloc (.cells #[] 69)) w.heap.size (some ⟨wd.heap.size, 0, none⟩) 0 0 []))
                                   generalize wd.alloc (.cells #[] 69) = we at hD hN ⊢
                                   generalize wd.heap.size = bN at hN ⊢
                                   try simp only [Act.put, List.setIfInBounds_toArray, List.set_cons_zero, List.set_cons_succ]
                                   have q_hb := Lib.hid (And.intro (hb.out.1.trans hD) (hb.out.2.drew hD hwg))
                                   have q_hy1 := Lib.hid (hy1.out)
                                   have q_hy2 := Lib.hid (hy2.out)
                                   have q_hy3 := Lib.hid (hy3.out)
                                   clear hD hb hy1 hy2 hy3
                                   clear wd
                                   revert hN; revert q_hy3; revert q_hy2; revert q_hy1; revert q_hb; revert we; revert bN; revert y3; revert y2; revert y1
                                   exact key29
                                 · skip
                                   go_simp
                                   refine hK _ _ ?_
                                   clear hK K
                                   have hD : Drew wd g (wd.alloc (.cells #[.string ⟨#[]⟩, .int .i64 0, .int .i64 0, .int .i64 0, .slice none 0 0] 67)) := Drew.of_ext hb.out.1.1 ((Ext.refl _).alloc _)
                                   have hP := Lib.hid (And.intro (Box.new wd #[.string ⟨#[]⟩, .int .i64 0, .int .i64 0, .int .i64 0, .slice none 0 0] 67) hb.out.2.lt)
                                   generalize wd.alloc (.cells #[.string ⟨#[]⟩, .int .i64 0, .int .i64 0, .int .i64 0, .slice none 0 0] 67) = we at hD hP ⊢
                                   generalize wd.heap.size = bP at hP ⊢
                                   try simp only [Act.put, List.setIfInBounds_toArray, List.set_cons_zero, List.set_cons_succ]
                                   have q_hb := Lib.hid (And.intro (hb.out.1.trans hD) (hb.out.2.drew hD hwg))
                                   have q_hy1 := Lib.hid (hy1.out)
                                   have q_hy2 := Lib.hid (hy2.out)
                                   have q_hy3 := Lib.hid (hy3.out)
                                   clear hD hb hy1 hy2 hy3
                                   clear wd
                                   revert hP; revert q_hy3; revert q_hy2; revert q_hy1; revert q_hb; revert we; revert bP; revert y3; revert y2; revert y1
                                   exact key30
                                intro y1 y2 y3 bP wd hb hy1 hy2 hy3 hP
                                refine wpAny_ready (rs := [0, 11]) (by kernel_rfl) (by simp) ?_
                                refine AllReady.cons rfl (fun K hK => ?_) (AllReady.cons rfl (fun K hK => ?_) AllReady.nil)
                                · skip
                                  go_simp
                                  refine hK _ _ ?_
                                  clear hK K
                                  have hD : Drew wd g (wd.alloc (.cells #[.string ⟨#[97, 115, 104]⟩, .string ⟨#[98, 114, 105, 103]⟩, .string ⟨#[99, 111, 114, 107]⟩, .string ⟨#[100, 101, 118, 97]⟩, .string ⟨#[101, 108, 121]⟩, .string ⟨#[102, 105, 102, 101]⟩, .string ⟨#[103, 97, 116, 101]⟩, .string ⟨#[104, 117, 108, 108]⟩] 9)) := Drew.of_ext hb.out.1.1 ((Ext.refl _).alloc _)
                                  have hL := Lib.hid (And.intro (Box.new wd #[.string ⟨#[97, 115, 104]⟩, .string ⟨#[98, 114, 105, 103]⟩, .string ⟨#[99, 111, 114, 107]⟩, .string ⟨#[100, 101, 118, 97]⟩, .string ⟨#[101, 108, 121]⟩, .string ⟨#[102, 105, 102, 101]⟩, .string ⟨#[103, 97, 116, 101]⟩, .string ⟨#[104, 117, 108, 108]⟩] 9) (Nat.ne_of_gt hb.out.1.1.lt))
                                  generalize wd.alloc (.cells #[.string ⟨#[97, 115, 104]⟩, .string ⟨#[98, 114, 105, 103]⟩, .string ⟨#[99, 111, 114, 107]⟩, .string ⟨#[100, 101, 118, 97]⟩, .string ⟨#[101, 108, 121]⟩, .string ⟨#[102, 105, 102, 101]⟩, .string ⟨#[103, 97, 116, 101]⟩, .string ⟨#[104, 117, 108, 108]⟩] 9) = we at hD hL ⊢
                                  generalize wd.heap.size = bL at hL ⊢
                                  try simp only [Act.put, List.setIfInBounds_toArray, List.set_cons_zero, List.set_cons_succ]
                                  have q_hb := Lib.hid (And.intro (hb.out.1.trans hD) (hb.out.2.drew hD hwg))
                                  have q_hy1 := Lib.hid (hy1.out)
                                  have q_hy2 := Lib.hid (hy2.out)
                                  have q_hy3 := Lib.hid (hy3.out)
                                  have q_hP := Lib.hid (And.intro (hP.out.1.drew hD (Nat.ne_of_gt (Nat.lt_trans hg hP.out.2))) hP.out.2)
                                  clear hD hb hy1 hy2 hy3 hP
                                  clear wd
                                  have hy1i := (show (y1 : Int) < 8 from Int.ofNat_lt.2 q_hy1.out)
                                  refine takeYes 3 10 ?v21 rfl rfl (by kernel_rfl) (by kernel_rfl) (by kernel_rfl) (fun _ _ _ _ h => h) (by kernel_rfl) ?y21 ?r21
                                  case y21 => intro w; go_simp; first | done | with_reducible rfl
                                  simp only [Act.put, List.setIfInBounds_toArray, List.set_cons_zero, List.set_cons_succ]
                                  clear hy1i
                                  revert q_hP; revert q_hy3; revert q_hy2; revert q_hy1; revert hL; revert q_hb; revert we; revert bP; revert y3; revert y2; revert y1; revert bL
                                  exact key14
                                · skip
                                  go_simp
                                  refine hK _ _ ?_
                                  clear hK K
                                  have hD : Drew wd g (wd.alloc (.cells #[] 69)) := Drew.of_ext hb.out.1.1 ((Ext.refl _).alloc _)
                                  have hN := Lib.hid ((OwnG.lit layName 69 wd (Nat.le_of_lt hb.out.2.lt) [] #[] rfl (by simp) : OwnG layName 69 (wd.alloc (.cells #[] 69)) w.heap.size (some ⟨wd.heap.size, 0, none⟩) 0 0 []))
                                  generalize wd.alloc (.cells #[] 69) = we at hD hN ⊢
                                  generalize wd.heap.size = bN at hN ⊢
                                  try simp only [Act.put, List.setIfInBounds_toArray, List.set_cons_zero, List.set_cons_succ]
                                  have q_hb := Lib.hid (And.intro (hb.out.1.trans hD) (hb.out.2.drew hD hwg))
                                  have q_hy1 := Lib.hid (hy1.out)
                                  have q_hy2 := Lib.hid (hy2.out)
                                  have q_hy3 := Lib.hid (hy3.out)
                                  have q_hP := Lib.hid (And.intro (hP.out.1.drew hD (Nat.ne_of_gt (Nat.lt_trans hg hP.out.2))) hP.out.2)
                                  clear hD hb hy1 hy2 hy3 hP
                                  clear wd
                                  revert q_hP; revert hN; revert q_hy3; revert q_hy2; revert q_hy1; revert q_hb; revert we; revert bP; revert bN; revert y3; revert y2; revert y1
                                  exact key28
                               intro y1 y2 y3 bN wd hb hy1 hy2 hy3 hN
                               refine wpAny_ready (rs := [0, 13]) (by kernel_rfl) (by simp) ?_
                               refine AllReady.cons rfl (fun K hK => ?_) (AllReady.cons rfl (fun K hK => ?_) AllReady.nil)
                               · skip
                                 go_simp
                                 refine hK _ _ ?_
                                 clear hK K
                                 have hD : Drew wd g (wd.alloc (.cells #[.string ⟨#[97, 115, 104]⟩, .string ⟨#[98, 114, 105, 103]⟩, .string ⟨#[99, 111, 114, 107]⟩, .string ⟨#[100, 101, 118, 97]⟩, .string ⟨#[101, 108, 121]⟩, .string ⟨#[102, 105, 102, 101]⟩, .string ⟨#[103, 97, 116, 101]⟩, .string ⟨#[104, 117, 108, 108]⟩] 9)) := Drew.of_ext hb.out.1.1 ((Ext.refl _).alloc _)
                                 have hL := Lib.hid (And.intro (Box.new wd #[.string ⟨#[97, 115, 104]⟩, .string ⟨#[98, 114, 105, 103]⟩, .string ⟨#[99, 111, 114, 107]⟩, .string ⟨#[100, 101, 118, 97]⟩, .string ⟨#[101, 108, 121]⟩, .string ⟨#[102, 105, 102, 101]⟩, .string ⟨#[103, 97, 116, 101]⟩, .string ⟨#[104, 117, 108, 108]⟩] 9) (Nat.ne_of_gt hb.out.1.1.lt))
                                 generalize wd.alloc (.cells #[.string ⟨#[97, 115, 104]⟩, .string ⟨#[98, 114, 105, 103]⟩, .string ⟨#[99, 111, 114, 107]⟩, .string ⟨#[100, 101, 118, 97]⟩, .string ⟨#[101, 108, 121]⟩, .string ⟨#[102, 105, 102, 101]⟩, .string ⟨#[103, 97, 116, 101]⟩, .string ⟨#[104, 117, 108, 108]⟩] 9) = we at hD hL ⊢
                                 generalize wd.heap.size = bL at hL ⊢
                                 try simp only [Act.put, List.setIfInBounds_toArray, List.set_cons_zero, List.set_cons_succ]
                                 have q_hb := Lib.hid (And.intro (hb.out.1.trans hD) (hb.out.2.drew hD hwg))
                                 have q_hy1 := Lib.hid (hy1.out)
                                 have q_hy2 := Lib.hid (hy2.out)
                                 have q_hy3 := Lib.hid (hy3.out)
                                 have q_hN := Lib.hid (hN.out.drawn hD.2 hg)
                                 clear hD hb hy1 hy2 hy3 hN
                                 clear wd
                                 have hy1i := (show (y1 : Int) < 8 from Int.ofNat_lt.2 q_hy1.out)
                                 refine takeYes 3 10 ?v22 rfl rfl (by kernel_rfl) (by kernel_rfl) (by kernel_rfl) (fun _ _ _ _ h => h) (by kernel_rfl) ?y22 ?r22
                                 case y22 => intro w; go_simp; first | done | with_reducible rfl
                                 simp only [Act.put, List.setIfInBounds_toArray, List.set_cons_zero, List.set_cons_succ]
                                 clear hy1i
                                 revert q_hN; revert q_hy3; revert q_hy2; revert q_hy1; revert hL; revert q_hb; revert we; revert bN; revert y3; revert y2; revert y1; revert bL
                                 exact key13
                               · skip
                                 go_simp
                                 refine hK _ _ ?_
                                 clear hK K
                                 have hD : Drew wd g (wd.alloc (.cells #[.string ⟨#[]⟩, .int .i64 0, .int .i64 0, .int .i64 0, .slice none 0 0] 67)) := Drew.of_ext hb.out.1.1 ((Ext.refl _).alloc _)
                                 have hP := Lib.hid (And.intro (Box.new wd #[.string ⟨#[]⟩, .int .i64 0, .int .i64 0, .int .i64 0, .slice none 0 0] 67) hb.out.2.lt)
                                 generalize wd.alloc (.cells #[.string ⟨#[]⟩, .int .i64 0, .int .i64 0, .int .i64 0, .slice none 0 0] 67) = we at hD hP ⊢
                                 generalize wd.heap.size = bP at hP ⊢
                                 try simp only [Act.put, List.setIfInBounds_toArray, List.set_cons_zero, List.set_cons_succ]
                                 have q_hb := Lib.hid (And.intro (hb.out.1.trans hD) (hb.out.2.drew hD hwg))
                                 have q_hy1 := Lib.hid (hy1.out)
                                 have q_hy2 := Lib.hid (hy2.out)
                                 have q_hy3 := Lib.hid (hy3.out)
                                 have q_hN := Lib.hid (hN.out.drawn hD.2 hg)
                                 clear hD hb hy1 hy2 hy3 hN
                                 clear wd
                                 revert hP; revert q_hN; revert q_hy3; revert q_hy2; revert q_hy1; revert q_hb; revert we; revert bP; revert bN; revert y3; revert y2; revert y1
                                 exact key28
                              intro y1 y2 y3 bN bP wd hb hy1 hy2 hy3 hN hP
                              refine wpAny_ready (rs := [0]) (by kernel_rfl) (by simp) ?_
                              refine AllReady.cons rfl (fun K hK => ?_) AllReady.nil
                              skip
                              go_simp
                              refine hK _ _ ?_
                              clear hK K
                              have hD : Drew wd g (wd.alloc (.cells #[.string ⟨#[97, 115, 104]⟩, .string ⟨#[98, 114, 105, 103]⟩, .string ⟨#[99, 111, 114, 107]⟩, .string ⟨#[100, 101, 118, 97]⟩, .string ⟨#[101, 108, 121]⟩, .string ⟨#[102, 105, 102, 101]⟩, .string ⟨#[103, 97, 116, 101]⟩, .string ⟨#[104, 117, 108, 108]⟩] 9)) := Drew.of_ext hb.out.1.1 ((Ext.refl _).alloc _)
                              have hL := Lib.hid (And.intro (Box.new wd #[.string ⟨#[97, 115, 104]⟩, .string ⟨#[98, 114, 105, 103]⟩, .string ⟨#[99, 111, 114, 107]⟩, .string ⟨#[100, 101, 118, 97]⟩, .string ⟨#[101, 108, 121]⟩, .string ⟨#[102, 105, 102, 101]⟩, .string ⟨#[103, 97, 116, 101]⟩, .string ⟨#[104, 117, 108, 108]⟩] 9) (Nat.ne_of_gt hb.out.1.1.lt))
                              generalize wd.alloc (.cells #[.string ⟨#[97, 115, 104]⟩, .string ⟨#[98, 114, 105, 103]⟩, .string ⟨#[99, 111, 114, 107]⟩, .string ⟨#[100, 101, 118, 97]⟩, .string ⟨#[101, 108, 121]⟩, .string ⟨#[102, 105, 102, 101]⟩, .string ⟨#[103, 97, 116, 101]⟩, .string ⟨#[104, 117, 108, 108]⟩] 9) = we at hD hL ⊢
                              generalize wd.heap.size = bL at hL ⊢
                              try simp only [Act.put, List.setIfInBounds_toArray, List.set_cons_zero, List.set_cons_succ]
                              have q_hb := Lib.hid (And.intro (hb.out.1.trans hD) (hb.out.2.drew hD hwg))
                              have q_hy1 := Lib.hid (hy1.out)
                              have q_hy2 := Lib.hid (hy2.out)
                              have q_hy3 := Lib.hid (hy3.out)
                              have q_hN := Lib.hid (hN.out.drawn hD.2 hg)
                              have q_hP := Lib.hid (And.intro (hP.out.1.drew hD (Nat.ne_of_gt (Nat.lt_trans hg hP.out.2))) hP.out.2)
                              clear hD hb hy1 hy2 hy3 hN hP
                              clear wd
                              have hy1i := (show (y1 : Int) < 8 from Int.ofNat_lt.2 q_hy1.out)
                              refine takeYes 3 10 ?v23 rfl rfl (by kernel_rfl) (by kernel_rfl) (by kernel_rfl) (fun _ _ _ _ h => h) (by kernel_rfl) ?y23 ?r23
                              case y23 => intro w; go_simp; first | done | with_reducible rfl
                              simp only [Act.put, List.setIfInBounds_toArray, List.set_cons_zero, List.set_cons_succ]
                              clear hy1i
                              revert q_hP; revert q_hN; revert q_hy3; revert q_hy2; revert q_hy1; revert hL; revert q_hb; revert we; revert bP; revert bN; revert y3; revert y2; revert y1; revert bL
                              exact key12
                             intro bL wd hb hL
                             refine wpAny_ready (rs := [2, 11, 13]) (by kernel_rfl) (by simp) ?_
                             refine AllReady.cons rfl (fun K hK => ?_) (AllReady.cons rfl (fun K hK => ?_) (AllReady.cons rfl (fun K hK => ?_) AllReady.nil))
                             · skip
                               go_simp
                               refine (l01Next_any _ _ _ hb.out.1.1 (by decide)).mono ?_
                               rintro e we ⟨z1, rfl, hz0, hz1, hD0⟩
                               obtain ⟨y1, rfl, hyn⟩ := pick_nat 8 rfl (by decide) hz0 hz1
                               have hy1 := Lib.hid hyn
                               have hD := hD0.drew
                               clear hz0 hz1 hD0 hyn
                               go_wp2_with fail
                               try simp only [Act.put, List.setIfInBounds_toArray, List.set_cons_zero, List.set_cons_succ]
                               have q_hb := Lib.hid (And.intro (hb.out.1.trans hD) (hb.out.2.drew hD hwg))
                               have q_hL := Lib.hid (And.intro (hL.out.1.drew hD hL.out.2) hL.out.2)
                               clear hD hb hL
                               clear wd
                               have hy1i := (show (y1 : Int) < 8 from Int.ofNat_lt.2 hy1.out)
                               refine takeYes 3 10 ?v24 rfl rfl (by kernel_rfl) (by kernel_rfl) (by kernel_rfl) (fun _ _ _ _ h => h) (by kernel_rfl) ?y24 ?r24
                               case y24 => intro w; go_simp; first | done | with_reducible rfl
                               simp only [Act.put, List.setIfInBounds_toArray, List.set_cons_zero, List.set_cons_succ]
                               clear hy1i
                               revert hy1; revert q_hL; revert q_hb; revert we; revert y1; revert bL
                               exact key23
                             · skip
                               go_simp
                               refine hK _ _ ?_
                               clear hK K
                               have hD : Drew wd g (wd.alloc (.cells #[] 69)) := Drew.of_ext hb.out.1.1 ((Ext.refl _).alloc _)
                               have hN := Lib.hid ((OwnG.lit layName 69 wd (Nat.le_of_lt hb.out.2.lt) [] #[] rfl (by simp) : OwnG layName 69 (wd.alloc (.cells #[] 69)) w.heap.size (some ⟨wd.heap.size, 0, none⟩) 0 0 []))
                               generalize wd.alloc (.cells #[] 69) = we at hD hN ⊢
                               generalize wd.heap.size = bN at hN ⊢
                               try simp only [Act.put, List.setIfInBounds_toArray, List.set_cons_zero, List.set_cons_succ]
                               have q_hb := Lib.hid (And.intro (hb.out.1.trans hD) (hb.out.2.drew hD hwg))
                               have q_hL := Lib.hid (And.intro (hL.out.1.drew hD hL.out.2) hL.out.2)
                               clear hD hb hL
                               clear wd
                               revert hN; revert q_hL; revert q_hb; revert we; revert bN; revert bL
                               exact key25
                             · skip
                               go_simp
                               refine hK _ _ ?_
                               clear hK K
                               have hD : Drew wd g (wd.alloc (.cells #[.string ⟨#[]⟩, .int .i64 0, .int .i64 0, .int .i64 0, .slice none 0 0] 67)) := Drew.of_ext hb.out.1.1 ((Ext.refl _).alloc _)
                               have hP := Lib.hid (And.intro (Box.new wd #[.string ⟨#[]⟩, .int .i64 0, .int .i64 0, .int .i64 0, .slice none 0 0] 67) hb.out.2.lt)
                               generalize wd.alloc (.cells #[.string ⟨#[]⟩, .int .i64 0, .int .i64 0, .int .i64 0, .slice none 0 0] 67) = we at hD hP ⊢
                               generalize wd.heap.size = bP at hP ⊢
                               try simp only [Act.put, List.setIfInBounds_toArray, List.set_cons_zero, List.set_cons_succ]
                               have q_hb := Lib.hid (And.intro (hb.out.1.trans hD) (hb.out.2.drew hD hwg))
                               have q_hL := Lib.hid (And.intro (hL.out.1.drew hD hL.out.2) hL.out.2)
                               clear hD hb hL
                               clear wd
                               revert hP; revert q_hL; revert q_hb; revert we; revert bP; revert bL
                               exact key26
                            intro bL bP wd hb hL hP
                            refine wpAny_ready (rs := [2, 11]) (by kernel_rfl) (by simp) ?_
                            refine AllReady.cons rfl (fun K hK => ?_) (AllReady.cons rfl (fun K hK => ?_) AllReady.nil)
                            · skip
                              go_simp
                              refine (l01Next_any _ _ _ hb.out.1.1 (by decide)).mono ?_
                              rintro e we ⟨z1, rfl, hz0, hz1, hD0⟩
                              obtain ⟨y1, rfl, hyn⟩ := pick_nat 8 rfl (by decide) hz0 hz1
                              have hy1 := Lib.hid hyn
                              have hD := hD0.drew
                              clear hz0 hz1 hD0 hyn
                              go_wp2_with fail
                              try simp only [Act.put, List.setIfInBounds_toArray, List.set_cons_zero, List.set_cons_succ]
                              have q_hb := Lib.hid (And.intro (hb.out.1.trans hD) (hb.out.2.drew hD hwg))
                              have q_hL := Lib.hid (And.intro (hL.out.1.drew hD hL.out.2) hL.out.2)
                              have q_hP := Lib.hid (And.intro (hP.out.1.drew hD (Nat.ne_of_gt (Nat.lt_trans hg hP.out.2))) hP.out.2)
                              clear hD hb hL hP
                              clear wd
                              have hy1i := (show (y1 : Int) < 8 from Int.ofNat_lt.2 hy1.out)
                              refine takeYes 3 10 ?v25 rfl rfl (by kernel_rfl) (by kernel_rfl) (by kernel_rfl) (fun _ _ _ _ h => h) (by kernel_rfl) ?y25 ?r25
                              case y25 => intro w; go_simp; first | done | with_reducible rfl
                              simp only [Act.put, List.setIfInBounds_toArray, List.set_cons_zero, List.set_cons_succ]
                              clear hy1i
                              revert q_hP; revert hy1; revert q_hL; revert q_hb; revert we; revert bP; revert y1; revert bL
                              exact key22
                            · skip
                              go_simp
                              refine hK _ _ ?_
                              clear hK K
                              have hD : Drew wd g (wd.alloc (.cells #[] 69)) := Drew.of_ext hb.out.1.1 ((Ext.refl _).alloc _)
                              have hN := Lib.hid ((OwnG.lit layName 69 wd (Nat.le_of_lt hb.out.2.lt) [] #[] rfl (by simp) : OwnG layName 69 (wd.alloc (.cells #[] 69)) w.heap.size (some ⟨wd.heap.size, 0, none⟩) 0 0 []))
                              generalize wd.alloc (.cells #[] 69) = we at hD hN ⊢
                              generalize wd.heap.size = bN at hN ⊢
                              try simp only [Act.put, List.setIfInBounds_toArray, List.set_cons_zero, List.set_cons_succ]
                              have q_hb := Lib.hid (And.intro (hb.out.1.trans hD) (hb.out.2.drew hD hwg))
                              have q_hL := Lib.hid (And.intro (hL.out.1.drew hD hL.out.2) hL.out.2)
                              have q_hP := Lib.hid (And.intro (hP.out.1.drew hD (Nat.ne_of_gt (Nat.lt_trans hg hP.out.2))) hP.out.2)
                              clear hD hb hL hP
                              clear wd
                              revert q_hP; revert hN; revert q_hL; revert q_hb; revert we; revert bP; revert bN; revert bL
                              exact key24
                           intro bL bN wd hb hL hN
                           refine wpAny_ready (rs := [2, 13]) (by kernel_rfl) (by simp) ?_
                           refine AllReady.cons rfl (fun K hK => ?_) (AllReady.cons rfl (fun K hK => ?_) AllReady.nil)
                           · skip
                             go_simp
                             refine (l01Next_any _ _ _ hb.out.1.1 (by decide)).mono ?_
                             rintro e we ⟨z1, rfl, hz0, hz1, hD0⟩
                             obtain ⟨y1, rfl, hyn⟩ := pick_nat 8 rfl (by decide) hz0 hz1
                             have hy1 := Lib.hid hyn
                             have hD := hD0.drew
                             clear hz0 hz1 hD0 hyn
                             go_wp2_with fail
                             try simp only [Act.put, List.setIfInBounds_toArray, List.set_cons_zero, List.set_cons_succ]
                             have q_hb := Lib.hid (And.intro (hb.out.1.trans hD) (hb.out.2.drew hD hwg))
                             have q_hL := Lib.hid (And.intro (hL.out.1.drew hD hL.out.2) hL.out.2)
                             have q_hN := Lib.hid (hN.out.drawn hD.2 hg)
                             clear hD hb hL hN
                             clear wd
                             have hy1i := (show (y1 : Int) < 8 from Int.ofNat_lt.2 hy1.out)
                             refine takeYes 3 10 ?v26 rfl rfl (by kernel_rfl) (by kernel_rfl) (by kernel_rfl) (fun _ _ _ _ h => h) (by kernel_rfl) ?y26 ?r26
                             case y26 => intro w; go_simp; first | done | with_reducible rfl
                             simp only [Act.put, List.setIfInBounds_toArray, List.set_cons_zero, List.set_cons_succ]
                             clear hy1i
                             revert q_hN; revert hy1; revert q_hL; revert q_hb; revert we; revert bN; revert y1; revert bL
                             exact key21
                           · skip
                             go_simp
                             refine hK _ _ ?_
                             clear hK K
                             have hD : Drew wd g (wd.alloc (.cells #[.string ⟨#[]⟩, .int .i64 0, .int .i64 0, .int .i64 0, .slice none 0 0] 67)) := Drew.of_ext hb.out.1.1 ((Ext.refl _).alloc _)
                             have hP := Lib.hid (And.intro (Box.new wd #[.string ⟨#[]⟩, .int .i64 0, .int .i64 0, .int .i64 0, .slice none 0 0] 67) hb.out.2.lt)
                             generalize wd.alloc (.cells #[.string ⟨#[]⟩, .int .i64 0, .int .i64 0, .int .i64 0, .slice none 0 0] 67) = we at hD hP ⊢
                             generalize wd.heap.size = bP at hP ⊢
                             try simp only [Act.put, List.setIfInBounds_toArray, List.set_cons_zero, List.set_cons_succ]
                             have q_hb := Lib.hid (And.intro (hb.out.1.trans hD) (hb.out.2.drew hD hwg))
                             have q_hL := Lib.hid (And.intro (hL.out.1.drew hD hL.out.2) hL.out.2)
                             have q_hN := Lib.hid (hN.out.drawn hD.2 hg)
                             clear hD hb hL hN
                             clear wd
                             revert hP; revert q_hN; revert q_hL; revert q_hb; revert we; revert bP; revert bN; revert bL
                             exact key24
                          intro bL bN bP wd hb hL hN hP
                          refine wpAny_ready (rs := [2]) (by kernel_rfl) (by simp) ?_
                          refine AllReady.cons rfl (fun K hK => ?_) AllReady.nil
                          skip
                          go_simp
                          refine (l01Next_any _ _ _ hb.out.1.1 (by decide)).mono ?_
                          rintro e we ⟨z1, rfl, hz0, hz1, hD0⟩
                          obtain ⟨y1, rfl, hyn⟩ := pick_nat 8 rfl (by decide) hz0 hz1
                          have hy1 := Lib.hid hyn
                          have hD := hD0.drew
                          clear hz0 hz1 hD0 hyn
                          go_wp2_with fail
                          try simp only [Act.put, List.setIfInBounds_toArray, List.set_cons_zero, List.set_cons_succ]
                          have q_hb := Lib.hid (And.intro (hb.out.1.trans hD) (hb.out.2.drew hD hwg))
                          have q_hL := Lib.hid (And.intro (hL.out.1.drew hD hL.out.2) hL.out.2)
                          have q_hN := Lib.hid (hN.out.drawn hD.2 hg)
                          have q_hP := Lib.hid (And.intro (hP.out.1.drew hD (Nat.ne_of_gt (Nat.lt_trans hg hP.out.2))) hP.out.2)
                          clear hD hb hL hN hP
                          clear wd
                          have hy1i := (show (y1 : Int) < 8 from Int.ofNat_lt.2 hy1.out)
                          refine takeYes 3 10 ?v27 rfl rfl (by kernel_rfl) (by kernel_rfl) (by kernel_rfl) (fun _ _ _ _ h => h) (by kernel_rfl) ?y27 ?r27
                          case y27 => intro w; go_simp; first | done | with_reducible rfl
                          simp only [Act.put, List.setIfInBounds_toArray, List.set_cons_zero, List.set_cons_succ]
                          clear hy1i
                          revert q_hP; revert q_hN; revert hy1; revert q_hL; revert q_hb; revert we; revert bP; revert bN; revert y1; revert bL
                          exact key20
                         intro bL y1 wd hb hL hy1
                         refine wpAny_ready (rs := [4, 6, 11, 13]) (by kernel_rfl) (by simp) ?_
                         refine AllReady.cons rfl (fun K hK => ?_) (AllReady.cons rfl (fun K hK => ?_) (AllReady.cons rfl (fun K hK => ?_) (AllReady.cons rfl (fun K hK => ?_) AllReady.nil)))
                         · skip
                           obtain ⟨s1, hc, hlz⟩ := Lits.of_box (n := 8) hL.out.1 (by kernel_rfl) rfl y1 hy1.out
                           have h1 := Lib.hid hlz
                           clear hlz
                           go_simp
                           refine hK _ _ ?_
                           clear hK K
                           clear hc
                           try simp only [Act.put, List.setIfInBounds_toArray, List.set_cons_zero, List.set_cons_succ]
                           clear hL hy1
                           revert h1; revert hb; revert wd; revert s1; revert y1; revert bL
                           exact key11
                         · skip
                           go_simp
                           refine (l01Next_any _ _ _ hb.out.1.1 (by decide)).mono ?_
                           rintro e we ⟨z2, rfl, hz0, hz1, hD0⟩
                           obtain ⟨y2, rfl, hyn⟩ := pick_nat 6 rfl (by decide) hz0 hz1
                           have hy2 := Lib.hid hyn
                           have hD := hD0.drew
                           clear hz0 hz1 hD0 hyn
                           go_wp2_with fail
                           try simp only [Act.put, List.setIfInBounds_toArray, List.set_cons_zero, List.set_cons_succ]
                           have q_hb := Lib.hid (And.intro (hb.out.1.trans hD) (hb.out.2.drew hD hwg))
                           have q_hL := Lib.hid (And.intro (hL.out.1.drew hD hL.out.2) hL.out.2)
                           have q_hy1 := Lib.hid (hy1.out)
                           clear hD hb hL hy1
                           clear wd
                           revert hy2; revert q_hy1; revert q_hL; revert q_hb; revert we; revert y2; revert y1; revert bL
                           exact key19
                         · skip
                           go_simp
                           refine hK _ _ ?_
                           clear hK K
                           have hD : Drew wd g (wd.alloc (.cells #[] 69)) := Drew.of_ext hb.out.1.1 ((Ext.refl _).alloc _)
                           have hN := Lib.hid ((OwnG.lit layName 69 wd (Nat.le_of_lt hb.out.2.lt) [] #[] rfl (by simp) : OwnG layName 69 (wd.alloc (.cells #[] 69)) w.heap.size (some ⟨wd.heap.size, 0, none⟩) 0 0 []))
                           generalize wd.alloc (.cells #[] 69) = we at hD hN ⊢
                           generalize wd.heap.size = bN at hN ⊢
                           try simp only [Act.put, List.setIfInBounds_toArray, List.set_cons_zero, List.set_cons_succ]
                           have q_hb := Lib.hid (And.intro (hb.out.1.trans hD) (hb.out.2.drew hD hwg))
                           have q_hL := Lib.hid (And.intro (hL.out.1.drew hD hL.out.2) hL.out.2)
                           have q_hy1 := Lib.hid (hy1.out)
                           clear hD hb hL hy1
                           clear wd
                           revert hN; revert q_hy1; revert q_hL; revert q_hb; revert we; revert bN; revert y1; revert bL
                           exact key21
                         · skip
                           go_simp
                           refine hK _ _ ?_
                           clear hK K
                           have hD : Drew wd g (wd.alloc (.cells #[.string ⟨#[]⟩, .int .i64 0, .int .i64 0, .int .i64 0, .slice none 0 0] 67)) := Drew.of_ext hb.out.1.1 ((Ext.refl _).alloc _)
                           have hP := Lib.hid (And.intro (Box.new wd #[.string ⟨#[]⟩, .int .i64 0, .int .i64 0, .int .i64 0, .slice none 0 0] 67) hb.out.2.lt)
                           generalize wd.alloc (.cells #[.string ⟨#[]⟩, .int .i64 0, .int .i64 0, .int .i64 0, .slice none 0 0] 67) = we at hD hP ⊢
                           generalize wd.heap.size = bP at hP ⊢
                           try simp only [Act.put, List.setIfInBounds_toArray, List.set_cons_zero, List.set_cons_succ]
                           have q_hb := Lib.hid (And.intro (hb.out.1.trans hD) (hb.out.2.drew hD hwg))
                           have q_hL := Lib.hid (And.intro (hL.out.1.drew hD hL.out.2) hL.out.2)
                           have q_hy1 := Lib.hid (hy1.out)
                           clear hD hb hL hy1
                           clear wd
                           revert hP; revert q_hy1; revert q_hL; revert q_hb; revert we; revert bP; revert y1; revert bL
                           exact key22
                        intro bL y1 bP wd hb hL hy1 hP
                        refine wpAny_ready (rs := [4, 6, 11]) (by kernel_rfl) (by simp) ?_
                        refine AllReady.cons rfl (fun K hK => ?_) (AllReady.cons rfl (fun K hK => ?_) (AllReady.cons rfl (fun K hK => ?_) AllReady.nil))
                        · skip
                          obtain ⟨s1, hc, hlz⟩ := Lits.of_box (n := 8) hL.out.1 (by kernel_rfl) rfl y1 hy1.out
                          have h1 := Lib.hid hlz
                          clear hlz
                          go_simp
                          refine hK _ _ ?_
                          clear hK K
                          clear hc
                          try simp only [Act.put, List.setIfInBounds_toArray, List.set_cons_zero, List.set_cons_succ]
                          clear hL hy1
                          revert hP; revert h1; revert hb; revert wd; revert bP; revert s1; revert y1; revert bL
                          exact key10
                        · skip
                          go_simp
                          refine (l01Next_any _ _ _ hb.out.1.1 (by decide)).mono ?_
                          rintro e we ⟨z2, rfl, hz0, hz1, hD0⟩
                          obtain ⟨y2, rfl, hyn⟩ := pick_nat 6 rfl (by decide) hz0 hz1
                          have hy2 := Lib.hid hyn
                          have hD := hD0.drew
                          clear hz0 hz1 hD0 hyn
                          go_wp2_with fail
                          try simp only [Act.put, List.setIfInBounds_toArray, List.set_cons_zero, List.set_cons_succ]
                          have q_hb := Lib.hid (And.intro (hb.out.1.trans hD) (hb.out.2.drew hD hwg))
                          have q_hL := Lib.hid (And.intro (hL.out.1.drew hD hL.out.2) hL.out.2)
                          have q_hy1 := Lib.hid (hy1.out)
                          have q_hP := Lib.hid (And.intro (hP.out.1.drew hD (Nat.ne_of_gt (Nat.lt_trans hg hP.out.2))) hP.out.2)
                          clear hD hb hL hy1 hP
                          clear wd
                          revert q_hP; revert hy2; revert q_hy1; revert q_hL; revert q_hb; revert we; revert bP; revert y2; revert y1; revert bL
                          exact key18
                        · skip
                          go_simp
                          refine hK _ _ ?_
                          clear hK K
                          have hD : Drew wd g (wd.alloc (.cells #[] 69)) := Drew.of_ext hb.out.1.1 ((Ext.refl _).alloc _)
                          have hN := Lib.hid ((OwnG.lit layName 69 wd (Nat.le_of_lt hb.out.2.lt) [] #[] rfl (by simp) : OwnG layName 69 (wd.alloc (.cells #[] 69)) w.heap.size (some ⟨wd.heap.size, 0, none⟩) 0 0 []))
                          generalize wd.alloc (.cells #[] 69) = we at hD hN ⊢
                          generalize wd.heap.size = bN at hN ⊢
                          try simp only [Act.put, List.setIfInBounds_toArray, List.set_cons_zero, List.set_cons_succ]
                          have q_hb := Lib.hid (And.intro (hb.out.1.trans hD) (hb.out.2.drew hD hwg))
                          have q_hL := Lib.hid (And.intro (hL.out.1.drew hD hL.out.2) hL.out.2)
                          have q_hy1 := Lib.hid (hy1.out)
                          have q_hP := Lib.hid (And.intro (hP.out.1.drew hD (Nat.ne_of_gt (Nat.lt_trans hg hP.out.2))) hP.out.2)
                          clear hD hb hL hy1 hP
                          clear wd
                          revert q_hP; revert hN; revert q_hy1; revert q_hL; revert q_hb; revert we; revert bP; revert bN; revert y1; revert bL
                          exact key20
                       intro bL y1 bN wd hb hL hy1 hN
                       refine wpAny_ready (rs := [4, 6, 13]) (by kernel_rfl) (by simp) ?_
                       refine AllReady.cons rfl (fun K hK => ?_) (AllReady.cons rfl (fun K hK => ?_) (AllReady.cons rfl (fun K hK => ?_) AllReady.nil))
                       · skip
                         obtain ⟨s1, hc, hlz⟩ := Lits.of_box (n := 8) hL.out.1 (by kernel_rfl) rfl y1 hy1.out
                         have h1 := Lib.hid hlz
                         clear hlz
                         go_simp
                         refine hK _ _ ?_
                         clear hK K
                         clear hc
                         try simp only [Act.put, List.setIfInBounds_toArray, List.set_cons_zero, List.set_cons_succ]
                         clear hL hy1
                         revert hN; revert h1; revert hb; revert wd; revert bN; revert s1; revert y1; revert bL
                         exact key9
                       · skip
                         go_simp
                         refine (l01Next_any _ _ _ hb.out.1.1 (by decide)).mono ?_
                         rintro e we ⟨z2, rfl, hz0, hz1, hD0⟩
                         obtain ⟨y2, rfl, hyn⟩ := pick_nat 6 rfl (by decide) hz0 hz1
                         have hy2 := Lib.hid hyn
                         have hD := hD0.drew
                         clear hz0 hz1 hD0 hyn
                         go_wp2_with fail
                         try simp only [Act.put, List.setIfInBounds_toArray, List.set_cons_zero, List.set_cons_succ]
                         have q_hb := Lib.hid (And.intro (hb.out.1.trans hD) (hb.out.2.drew hD hwg))
                         have q_hL := Lib.hid (And.intro (hL.out.1.drew hD hL.out.2) hL.out.2)
                         have q_hy1 := Lib.hid (hy1.out)
                         have q_hN := Lib.hid (hN.out.drawn hD.2 hg)
                         clear hD hb hL hy1 hN
                         clear wd
                         revert q_hN; revert hy2; revert q_hy1; revert q_hL; revert q_hb; revert we; revert bN; revert y2; revert y1; revert bL
                         exact key17
                       · skip
                         go_simp
                         refine hK _ _ ?_
                         clear hK K
                         have hD : Drew wd g (wd.alloc (.cells #[.string ⟨#[]⟩, .int .i64 0, .int .i64 0, .int .i64 0, .slice none 0 0] 67)) := Drew.of_ext hb.out.1.1 ((Ext.refl _).alloc _)
                         have hP := Lib.hid (And.intro (Box.new wd #[.string ⟨#[]⟩, .int .i64 0, .int .i64 0, .int .i64 0, .slice none 0 0] 67) hb.out.2.lt)
                         generalize wd.alloc (.cells #[.string ⟨#[]⟩, .int .i64 0, .int .i64 0, .int .i64 0, .slice none 0 0] 67) = we at hD hP ⊢
                         generalize wd.heap.size = bP at hP ⊢
                         try simp only [Act.put, List.setIfInBounds_toArray, List.set_cons_zero, List.set_cons_succ]
                         have q_hb := Lib.hid (And.intro (hb.out.1.trans hD) (hb.out.2.drew hD hwg))
                         have q_hL := Lib.hid (And.intro (hL.out.1.drew hD hL.out.2) hL.out.2)
                         have q_hy1 := Lib.hid (hy1.out)
                         have q_hN := Lib.hid (hN.out.drawn hD.2 hg)
                         clear hD hb hL hy1 hN
                         clear wd
                         revert hP; revert q_hN; revert q_hy1; revert q_hL; revert q_hb; revert we; revert bP; revert bN; revert y1; revert bL
                         exact key20
                      intro bL y1 bN bP wd hb hL hy1 hN hP
                      refine wpAny_ready (rs := [4, 6]) (by kernel_rfl) (by simp) ?_
                      refine AllReady.cons rfl (fun K hK => ?_) (AllReady.cons rfl (fun K hK => ?_) AllReady.nil)
                      · skip
                        obtain ⟨s1, hc, hlz⟩ := Lits.of_box (n := 8) hL.out.1 (by kernel_rfl) rfl y1 hy1.out
                        have h1 := Lib.hid hlz
                        clear hlz
                        go_simp
                        refine hK _ _ ?_
                        clear hK K
                        clear hc
                        try simp only [Act.put, List.setIfInBounds_toArray, List.set_cons_zero, List.set_cons_succ]
                        clear hL hy1
                        revert hP; revert hN; revert h1; revert hb; revert wd; revert bP; revert bN; revert s1; revert y1; revert bL
                        exact key8
                      · skip
                        go_simp
                        refine (l01Next_any _ _ _ hb.out.1.1 (by decide)).mono ?_
                        rintro e we ⟨z2, rfl, hz0, hz1, hD0⟩
                        obtain ⟨y2, rfl, hyn⟩ := pick_nat 6 rfl (by decide) hz0 hz1
                        have hy2 := Lib.hid hyn
                        have hD := hD0.drew
                        clear hz0 hz1 hD0 hyn
                        go_wp2_with fail
                        try simp only [Act.put, List.setIfInBounds_toArray, List.set_cons_zero, List.set_cons_succ]
                        have q_hb := Lib.hid (And.intro (hb.out.1.trans hD) (hb.out.2.drew hD hwg))
                        have q_hL := Lib.hid (And.intro (hL.out.1.drew hD hL.out.2) hL.out.2)
                        have q_hy1 := Lib.hid (hy1.out)
                        have q_hN := Lib.hid (hN.out.drawn hD.2 hg)
                        have q_hP := Lib.hid (And.intro (hP.out.1.drew hD (Nat.ne_of_gt (Nat.lt_trans hg hP.out.2))) hP.out.2)
                        clear hD hb hL hy1 hN hP
                        clear wd
                        revert q_hP; revert q_hN; revert hy2; revert q_hy1; revert q_hL; revert q_hb; revert we; revert bP; revert bN; revert y2; revert y1; revert bL
                        exact key16
                     intro bL y1 y2 wd hb hL hy1 hy2
                     refine wpAny_ready (rs := [4, 8, 11, 13]) (by kernel_rfl) (by simp) ?_
                     refine AllReady.cons rfl (fun K hK => ?_) (AllReady.cons rfl (fun K hK => ?_) (AllReady.cons rfl (fun K hK => ?_) (AllReady.cons rfl (fun K hK => ?_) AllReady.nil)))
                     · skip
                       obtain ⟨s1, hc, hlz⟩ := Lits.of_box (n := 8) hL.out.1 (by kernel_rfl) rfl y1 hy1.out
                       have h1 := Lib.hid hlz
                       clear hlz
                       go_simp
                       refine hK _ _ ?_
                       clear hK K
                       clear hc
                       try simp only [Act.put, List.setIfInBounds_toArray, List.set_cons_zero, List.set_cons_succ]
                       clear hL hy1
                       revert hy2; revert h1; revert hb; revert wd; revert y2; revert s1; revert y1; revert bL
                       exact key7
                     · skip
                       go_simp
                       refine (l01Next_any _ _ _ hb.out.1.1 (by decide)).mono ?_
                       rintro e we ⟨z3, rfl, hz0, hz1, hD0⟩
                       obtain ⟨y3, rfl, hyn⟩ := pick_nat 600 rfl (by decide) hz0 hz1
                       have hy3 := Lib.hid hyn
                       have hD := hD0.drew
                       clear hz0 hz1 hD0 hyn
                       go_wp2_with fail
                       try simp only [Act.put, List.setIfInBounds_toArray, List.set_cons_zero, List.set_cons_succ]
                       have q_hb := Lib.hid (And.intro (hb.out.1.trans hD) (hb.out.2.drew hD hwg))
                       have q_hL := Lib.hid (And.intro (hL.out.1.drew hD hL.out.2) hL.out.2)
                       have q_hy1 := Lib.hid (hy1.out)
                       have q_hy2 := Lib.hid (hy2.out)
                       clear hD hb hL hy1 hy2
                       clear wd
                       have hy3i := (show IntKind.i64.wrap (1000 + (y3 : Int)) = 1000 + (y3 : Int) from IntWalk.i64_in _ (addy hy3.out))
                       refine takeYes 9 16 ?v28 rfl rfl (by kernel_rfl) (by kernel_rfl) (by kernel_rfl) (fun _ _ _ _ h => h) (by kernel_rfl) ?y28 ?r28
                       case y28 => intro w; go_simp; first | done | with_reducible rfl
                       simp only [Act.put, List.setIfInBounds_toArray, List.set_cons_zero, List.set_cons_succ]
                       refine takeYes 10 17 ?v29 rfl rfl (by kernel_rfl) (by kernel_rfl) (by kernel_rfl) (fun _ _ _ _ h => h) (by kernel_rfl) ?y29 ?r29
                       case y29 => intro w; go_simp; first | done | with_reducible rfl
                       simp only [Act.put, List.setIfInBounds_toArray, List.set_cons_zero, List.set_cons_succ]
                       clear hy3i
                       revert hy3; revert q_hy2; revert q_hy1; revert q_hL; revert q_hb; revert we; revert y3; revert y2; revert y1; revert bL
                       exact key15
                     · skip
                       go_simp
                       refine hK _ _ ?_
                       clear hK K
                       have hD : Drew wd g (wd.alloc (.cells #[] 69)) := Drew.of_ext hb.out.1.1 ((Ext.refl _).alloc _)
                       have hN := Lib.hid ((OwnG.lit layName 69 wd (Nat.le_of_lt hb.out.2.lt) [] #[] rfl (by simp) : OwnG layName 69 (wd.alloc (.cells #[] 69)) w.heap.size (some ⟨wd.heap.size, 0, none⟩) 0 0 []))
                       generalize wd.alloc (.cells #[] 69) = we at hD hN ⊢
                       generalize wd.heap.size = bN at hN ⊢
                       try simp only [Act.put, List.setIfInBounds_toArray, List.set_cons_zero, List.set_cons_succ]
                       have q_hb := Lib.hid (And.intro (hb.out.1.trans hD) (hb.out.2.drew hD hwg))
                       have q_hL := Lib.hid (And.intro (hL.out.1.drew hD hL.out.2) hL.out.2)
                       have q_hy1 := Lib.hid (hy1.out)
                       have q_hy2 := Lib.hid (hy2.out)
                       clear hD hb hL hy1 hy2
                       clear wd
                       revert hN; revert q_hy2; revert q_hy1; revert q_hL; revert q_hb; revert we; revert bN; revert y2; revert y1; revert bL
                       exact key17
                     · skip
                       go_simp
                       refine hK _ _ ?_
                       clear hK K
                       have hD : Drew wd g (wd.alloc (.cells #[.string ⟨#[]⟩, .int .i64 0, .int .i64 0, .int .i64 0, .slice none 0 0] 67)) := Drew.of_ext hb.out.1.1 ((Ext.refl _).alloc _)
                       have hP := Lib.hid (And.intro (Box.new wd #[.string ⟨#[]⟩, .int .i64 0, .int .i64 0, .int .i64 0, .slice none 0 0] 67) hb.out.2.lt)
                       generalize wd.alloc (.cells #[.string ⟨#[]⟩, .int .i64 0, .int .i64 0, .int .i64 0, .slice none 0 0] 67) = we at hD hP ⊢
                       generalize wd.heap.size = bP at hP ⊢
                       try simp only [Act.put, List.setIfInBounds_toArray, List.set_cons_zero, List.set_cons_succ]
                       have q_hb := Lib.hid (And.intro (hb.out.1.trans hD) (hb.out.2.drew hD hwg))
                       have q_hL := Lib.hid (And.intro (hL.out.1.drew hD hL.out.2) hL.out.2)
                       have q_hy1 := Lib.hid (hy1.out)
                       have q_hy2 := Lib.hid (hy2.out)
                       clear hD hb hL hy1 hy2
                       clear wd
                       revert hP; revert q_hy2; revert q_hy1; revert q_hL; revert q_hb; revert we; revert bP; revert y2; revert y1; revert bL
                       exact key18
                    intro bL y1 y2 bP wd hb hL hy1 hy2 hP
                    refine wpAny_ready (rs := [4, 8, 11]) (by kernel_rfl) (by simp) ?_
                    refine AllReady.cons rfl (fun K hK => ?_) (AllReady.cons rfl (fun K hK => ?_) (AllReady.cons rfl (fun K hK => ?_) AllReady.nil))
                    · skip
                      obtain ⟨s1, hc, hlz⟩ := Lits.of_box (n := 8) hL.out.1 (by kernel_rfl) rfl y1 hy1.out
                      have h1 := Lib.hid hlz
                      clear hlz
                      go_simp
                      refine hK _ _ ?_
                      clear hK K
                      clear hc
                      try simp only [Act.put, List.setIfInBounds_toArray, List.set_cons_zero, List.set_cons_succ]
                      clear hL hy1
                      revert hP; revert hy2; revert h1; revert hb; revert wd; revert bP; revert y2; revert s1; revert y1; revert bL
                      exact key6
                    · skip
                      go_simp
                      refine (l01Next_any _ _ _ hb.out.1.1 (by decide)).mono ?_
                      rintro e we ⟨z3, rfl, hz0, hz1, hD0⟩
                      obtain ⟨y3, rfl, hyn⟩ := pick_nat 600 rfl (by decide) hz0 hz1
                      have hy3 := Lib.hid hyn
                      have hD := hD0.drew
                      clear hz0 hz1 hD0 hyn
                      go_wp2_with fail
                      try simp only [Act.put, List.setIfInBounds_toArray, List.set_cons_zero, List.set_cons_succ]
                      have q_hb := Lib.hid (And.intro (hb.out.1.trans hD) (hb.out.2.drew hD hwg))
                      have q_hL := Lib.hid (And.intro (hL.out.1.drew hD hL.out.2) hL.out.2)
                      have q_hy1 := Lib.hid (hy1.out)
                      have q_hy2 := Lib.hid (hy2.out)
                      have q_hP := Lib.hid (And.intro (hP.out.1.drew hD (Nat.ne_of_gt (Nat.lt_trans hg hP.out.2))) hP.out.2)
                      clear hD hb hL hy1 hy2 hP
                      clear wd
                      have hy3i := (show IntKind.i64.wrap (1000 + (y3 : Int)) = 1000 + (y3 : Int) from IntWalk.i64_in _ (addy hy3.out))
                      refine takeYes 9 16 ?v30 rfl rfl (by kernel_rfl) (by kernel_rfl) (by kernel_rfl) (fun _ _ _ _ h => h) (by kernel_rfl) ?y30 ?r30
                      case y30 => intro w; go_simp; first | done | with_reducible rfl
                      simp only [Act.put, List.setIfInBounds_toArray, List.set_cons_zero, List.set_cons_succ]
                      refine takeYes 10 17 ?v31 rfl rfl (by kernel_rfl) (by kernel_rfl) (by kernel_rfl) (fun _ _ _ _ h => h) (by kernel_rfl) ?y31 ?r31
                      case y31 => intro w; go_simp; first | done | with_reducible rfl
                      simp only [Act.put, List.setIfInBounds_toArray, List.set_cons_zero, List.set_cons_succ]
                      clear hy3i
                      revert q_hP; revert hy3; revert q_hy2; revert q_hy1; revert q_hL; revert q_hb; revert we; revert bP; revert y3; revert y2; revert y1; revert bL
                      exact key14
                    · skip
                      go_simp
                      refine hK _ _ ?_
                      clear hK K
                      have hD : Drew wd g (wd.alloc (.cells #[] 69)) := Drew.of_ext hb.out.1.1 ((Ext.refl _).alloc _)
                      have hN := Lib.hid ((OwnG.lit layName 69 wd (Nat.le_of_lt hb.out.2.lt) [] #[] rfl (by simp) : OwnG layName 69 (wd.alloc (.cells #[] 69)) w.heap.size (some ⟨wd.heap.size, 0, none⟩) 0 0 []))
                      generalize wd.alloc (.cells #[] 69) = we at hD hN ⊢
                      generalize wd.heap.size = bN at hN ⊢
                      try simp only [Act.put, List.setIfInBounds_toArray, List.set_cons_zero, List.set_cons_succ]
                      have q_hb := Lib.hid (And.intro (hb.out.1.trans hD) (hb.out.2.drew hD hwg))
                      have q_hL := Lib.hid (And.intro (hL.out.1.drew hD hL.out.2) hL.out.2)
                      have q_hy1 := Lib.hid (hy1.out)
                      have q_hy2 := Lib.hid (hy2.out)
                      have q_hP := Lib.hid (And.intro (hP.out.1.drew hD (Nat.ne_of_gt (Nat.lt_trans hg hP.out.2))) hP.out.2)
                      clear hD hb hL hy1 hy2 hP
                      clear wd
                      revert q_hP; revert hN; revert q_hy2; revert q_hy1; revert q_hL; revert q_hb; revert we; revert bP; revert bN; revert y2; revert y1; revert bL
                      exact key16
                   intro bL y1 y2 bN wd hb hL hy1 hy2 hN
                   refine wpAny_ready (rs := [4, 8, 13]) (by kernel_rfl) (by simp) ?_
                   refine AllReady.cons rfl (fun K hK => ?_) (AllReady.cons rfl (fun K hK => ?_) (AllReady.cons rfl (fun K hK => ?_) AllReady.nil))
                   · skip
                     obtain ⟨s1, hc, hlz⟩ := Lits.of_box (n := 8) hL.out.1 (by kernel_rfl) rfl y1 hy1.out
                     have h1 := Lib.hid hlz
                     clear hlz
                     go_simp
                     refine hK _ _ ?_
                     clear hK K
                     clear hc
                     try simp only [Act.put, List.setIfInBounds_toArray, List.set_cons_zero, List.set_cons_succ]
                     clear hL hy1
                     revert hN; revert hy2; revert h1; revert hb; revert wd; revert bN; revert y2; revert s1; revert y1; revert bL
                     exact key5
                   · skip
                     go_simp
                     refine (l01Next_any _ _ _ hb.out.1.1 (by decide)).mono ?_
                     rintro e we ⟨z3, rfl, hz0, hz1, hD0⟩
                     obtain ⟨y3, rfl, hyn⟩ := pick_nat 600 rfl (by decide) hz0 hz1
                     have hy3 := Lib.hid hyn
                     have hD := hD0.drew
                     clear hz0 hz1 hD0 hyn
                     go_wp2_with fail
                     try simp only [Act.put, List.setIfInBounds_toArray, List.set_cons_zero, List.set_cons_succ]
                     have q_hb := Lib.hid (And.intro (hb.out.1.trans hD) (hb.out.2.drew hD hwg))
                     have q_hL := Lib.hid (And.intro (hL.out.1.drew hD hL.out.2) hL.out.2)
                     have q_hy1 := Lib.hid (hy1.out)
                     have q_hy2 := Lib.hid (hy2.out)
                     have q_hN := Lib.hid (hN.out.drawn hD.2 hg)
                     clear hD hb hL hy1 hy2 hN
                     clear wd
                     have hy3i := (show IntKind.i64.wrap (1000 + (y3 : Int)) = 1000 + (y3 : Int) from IntWalk.i64_in _ (addy hy3.out))
                     refine takeYes 9 16 ?v32 rfl rfl (by kernel_rfl) (by kernel_rfl) (by kernel_rfl) (fun _ _ _ _ h => h) (by kernel_rfl) ?y32 ?r32
                     case y32 => intro w; go_simp; first | done | with_reducible rfl
                     simp only [Act.put, List.setIfInBounds_toArray, List.set_cons_zero, List.set_cons_succ]
                     refine takeYes 10 17 ?v33 rfl rfl (by kernel_rfl) (by kernel_rfl) (by kernel_rfl) (fun _ _ _ _ h => h) (by kernel_rfl) ?y33 ?r33
                     case y33 => intro w; go_simp; first | done | with_reducible rfl
                     simp only [Act.put, List.setIfInBounds_toArray, List.set_cons_zero, List.set_cons_succ]
                     clear hy3i
                     revert q_hN; revert hy3; revert q_hy2; revert q_hy1; revert q_hL; revert q_hb; revert we; revert bN; revert y3; revert y2; revert y1; revert bL
                     exact key13
                   · skip
                     go_simp
                     refine hK _ _ ?_
                     clear hK K
                     have hD : Drew wd g (wd.alloc (.cells #[.string ⟨#[]⟩, .int .i64 0, .int .i64 0, .int .i64 0, .slice none 0 0] 67)) := Drew.of_ext hb.out.1.1 ((Ext.refl _).alloc _)
                     have hP := Lib.hid (And.intro (Box.new wd #[.string ⟨#[]⟩, .int .i64 0, .int .i64 0, .int .i64 0, .slice none 0 0] 67) hb.out.2.lt)
                     generalize wd.alloc (.cells #[.string ⟨#[]⟩, .int .i64 0, .int .i64 0, .int .i64 0, .slice none 0 0] 67) = we at hD hP ⊢
                     generalize wd.heap.size = bP at hP ⊢
                     try simp only [Act.put, List.setIfInBounds_toArray, List.set_cons_zero, List.set_cons_succ]
                     have q_hb := Lib.hid (And.intro (hb.out.1.trans hD) (hb.out.2.drew hD hwg))
                     have q_hL := Lib.hid (And.intro (hL.out.1.drew hD hL.out.2) hL.out.2)
                     have q_hy1 := Lib.hid (hy1.out)
                     have q_hy2 := Lib.hid (hy2.out)
                     have q_hN := Lib.hid (hN.out.drawn hD.2 hg)
                     clear hD hb hL hy1 hy2 hN
                     clear wd
                     revert hP; revert q_hN; revert q_hy2; revert q_hy1; revert q_hL; revert q_hb; revert we; revert bP; revert bN; revert y2; revert y1; revert bL
                     exact key16
                  intro bL y1 y2 bN bP wd hb hL hy1 hy2 hN hP
                  refine wpAny_ready (rs := [4, 8]) (by kernel_rfl) (by simp) ?_
                  refine AllReady.cons rfl (fun K hK => ?_) (AllReady.cons rfl (fun K hK => ?_) AllReady.nil)
                  · skip
                    obtain ⟨s1, hc, hlz⟩ := Lits.of_box (n := 8) hL.out.1 (by kernel_rfl) rfl y1 hy1.out
                    have h1 := Lib.hid hlz
                    clear hlz
                    go_simp
                    refine hK _ _ ?_
                    clear hK K
                    clear hc
                    try simp only [Act.put, List.setIfInBounds_toArray, List.set_cons_zero, List.set_cons_succ]
                    clear hL hy1
                    revert hP; revert hN; revert hy2; revert h1; revert hb; revert wd; revert bP; revert bN; revert y2; revert s1; revert y1; revert bL
                    exact key4
                  · skip
                    go_simp
                    refine (l01Next_any _ _ _ hb.out.1.1 (by decide)).mono ?_
                    rintro e we ⟨z3, rfl, hz0, hz1, hD0⟩
                    obtain ⟨y3, rfl, hyn⟩ := pick_nat 600 rfl (by decide) hz0 hz1
                    have hy3 := Lib.hid hyn
                    have hD := hD0.drew
                    clear hz0 hz1 hD0 hyn
                    go_wp2_with fail
                    try simp only [Act.put, List.setIfInBounds_toArray, List.set_cons_zero, List.set_cons_succ]
                    have q_hb := Lib.hid (And.intro (hb.out.1.trans hD) (hb.out.2.drew hD hwg))
                    have q_hL := Lib.hid (And.intro (hL.out.1.drew hD hL.out.2) hL.out.2)
                    have q_hy1 := Lib.hid (hy1.out)
                    have q_hy2 := Lib.hid (hy2.out)
                    have q_hN := Lib.hid (hN.out.drawn hD.2 hg)
                    have q_hP := Lib.hid (And.intro (hP.out.1.drew hD (Nat.ne_of_gt (Nat.lt_trans hg hP.out.2))) hP.out.2)
                    clear hD hb hL hy1 hy2 hN hP
                    clear wd
                    have hy3i := (show IntKind.i64.wrap (1000 + (y3 : Int)) = 1000 + (y3 : Int) from IntWalk.i64_in _ (addy hy3.out))
                    refine takeYes 9 16 ?v34 rfl rfl (by kernel_rfl) (by kernel_rfl) (by kernel_rfl) (fun _ _ _ _ h => h) (by kernel_rfl) ?y34 ?r34
                    case y34 => intro w; go_simp; first | done | with_reducible rfl
                    simp only [Act.put, List.setIfInBounds_toArray, List.set_cons_zero, List.set_cons_succ]
                    refine takeYes 10 17 ?v35 rfl rfl (by kernel_rfl) (by kernel_rfl) (by kernel_rfl) (fun _ _ _ _ h => h) (by kernel_rfl) ?y35 ?r35
                    case y35 => intro w; go_simp; first | done | with_reducible rfl
                    simp only [Act.put, List.setIfInBounds_toArray, List.set_cons_zero, List.set_cons_succ]
                    clear hy3i
                    revert q_hP; revert q_hN; revert hy3; revert q_hy2; revert q_hy1; revert q_hL; revert q_hb; revert we; revert bP; revert bN; revert y3; revert y2; revert y1; revert bL
                    exact key12
                 intro bL y1 y2 y3 wd hb hL hy1 hy2 hy3
                 refine wpAny_ready (rs := [4, 11, 13]) (by kernel_rfl) (by simp) ?_
                 refine AllReady.cons rfl (fun K hK => ?_) (AllReady.cons rfl (fun K hK => ?_) (AllReady.cons rfl (fun K hK => ?_) AllReady.nil))
                 · skip
                   obtain ⟨s1, hc, hlz⟩ := Lits.of_box (n := 8) hL.out.1 (by kernel_rfl) rfl y1 hy1.out
                   have h1 := Lib.hid hlz
                   clear hlz
                   go_simp
                   refine hK _ _ ?_
                   clear hK K
                   clear hc
                   try simp only [Act.put, List.setIfInBounds_toArray, List.set_cons_zero, List.set_cons_succ]
                   clear hL hy1
                   revert hy3; revert hy2; revert h1; revert hb; revert wd; revert y3; revert y2; revert s1; revert y1; revert bL
                   exact key3
                 · skip
                   go_simp
                   refine hK _ _ ?_
                   clear hK K
                   have hD : Drew wd g (wd.alloc (.cells #[] 69)) := Drew.of_ext hb.out.1.1 ((Ext.refl _).alloc _)
                   have hN := Lib.hid ((OwnG.lit layName 69 wd (Nat.le_of_lt hb.out.2.lt) [] #[] rfl (by simp) : OwnG layName 69 (wd.alloc (.cells #[] 69)) w.heap.size (some ⟨wd.heap.size, 0, none⟩) 0 0 []))
                   generalize wd.alloc (.cells #[] 69) = we at hD hN ⊢
                   generalize wd.heap.size = bN at hN ⊢
                   try simp only [Act.put, List.setIfInBounds_toArray, List.set_cons_zero, List.set_cons_succ]
                   have q_hb := Lib.hid (And.intro (hb.out.1.trans hD) (hb.out.2.drew hD hwg))
                   have q_hL := Lib.hid (And.intro (hL.out.1.drew hD hL.out.2) hL.out.2)
                   have q_hy1 := Lib.hid (hy1.out)
                   have q_hy2 := Lib.hid (hy2.out)
                   have q_hy3 := Lib.hid (hy3.out)
                   clear hD hb hL hy1 hy2 hy3
                   clear wd
                   revert hN; revert q_hy3; revert q_hy2; revert q_hy1; revert q_hL; revert q_hb; revert we; revert bN; revert y3; revert y2; revert y1; revert bL
                   exact key13
                 · skip
                   go_simp
                   refine hK _ _ ?_
                   clear hK K
                   have hD : Drew wd g (wd.alloc (.cells #[.string ⟨#[]⟩, .int .i64 0, .int .i64 0, .int .i64 0, .slice none 0 0] 67)) := Drew.of_ext hb.out.1.1 ((Ext.refl _).alloc _)
                   have hP := Lib.hid (And.intro (Box.new wd #[.string ⟨#[]⟩, .int .i64 0, .int .i64 0, .int .i64 0, .slice none 0 0] 67) hb.out.2.lt)
                   generalize wd.alloc (.cells #[.string ⟨#[]⟩, .int .i64 0, .int .i64 0, .int .i64 0, .slice none 0 0] 67) = we at hD hP ⊢
                   generalize wd.heap.size = bP at hP ⊢
                   try simp only [Act.put, List.setIfInBounds_toArray, List.set_cons_zero, List.set_cons_succ]
                   have q_hb := Lib.hid (And.intro (hb.out.1.trans hD) (hb.out.2.drew hD hwg))
                   have q_hL := Lib.hid (And.intro (hL.out.1.drew hD hL.out.2) hL.out.2)
                   have q_hy1 := Lib.hid (hy1.out)
                   have q_hy2 := Lib.hid (hy2.out)
                   have q_hy3 := Lib.hid (hy3.out)
                   clear hD hb hL hy1 hy2 hy3
                   clear wd
                   revert hP; revert q_hy3; revert q_hy2; revert q_hy1; revert q_hL; revert q_hb; revert we; revert bP; revert y3; revert y2; revert y1; revert bL
                   exact key14
                intro bL y1 y2 y3 bP wd hb hL hy1 hy2 hy3 hP
                refine wpAny_ready (rs := [4, 11]) (by kernel_rfl) (by simp) ?_
                refine AllReady.cons rfl (fun K hK => ?_) (AllReady.cons rfl (fun K hK => ?_) AllReady.nil)
                · skip
                  obtain ⟨s1, hc, hlz⟩ := Lits.of_box (n := 8) hL.out.1 (by kernel_rfl) rfl y1 hy1.out
                  have h1 := Lib.hid hlz
                  clear hlz
                  go_simp
                  refine hK _ _ ?_
                  clear hK K
                  clear hc
                  try simp only [Act.put, List.setIfInBounds_toArray, List.set_cons_zero, List.set_cons_succ]
                  clear hL hy1
                  revert hP; revert hy3; revert hy2; revert h1; revert hb; revert wd; revert bP; revert y3; revert y2; revert s1; revert y1; revert bL
                  exact key2
                · skip
                  go_simp
                  refine hK _ _ ?_
                  clear hK K
                  have hD : Drew wd g (wd.alloc (.cells #[] 69)) := Drew.of_ext hb.out.1.1 ((Ext.refl _).alloc _)
                  have hN := Lib.hid ((OwnG.lit layName 69 wd (Nat.le_of_lt hb.out.2.lt) [] #[] rfl (by simp) : OwnG layName 69 (wd.alloc (.cells #[] 69)) w.heap.size (some ⟨wd.heap.size, 0, none⟩) 0 0 []))
                  generalize wd.alloc (.cells #[] 69) = we at hD hN ⊢
                  generalize wd.heap.size = bN at hN ⊢
                  try simp only [Act.put, List.setIfInBounds_toArray, List.set_cons_zero, List.set_cons_succ]
                  have q_hb := Lib.hid (And.intro (hb.out.1.trans hD) (hb.out.2.drew hD hwg))
                  have q_hL := Lib.hid (And.intro (hL.out.1.drew hD hL.out.2) hL.out.2)
                  have q_hy1 := Lib.hid (hy1.out)
                  have q_hy2 := Lib.hid (hy2.out)
                  have q_hy3 := Lib.hid (hy3.out)
                  have q_hP := Lib.hid (And.intro (hP.out.1.drew hD (Nat.ne_of_gt (Nat.lt_trans hg hP.out.2))) hP.out.2)
                  clear hD hb hL hy1 hy2 hy3 hP
                  clear wd
                  revert q_hP; revert hN; revert q_hy3; revert q_hy2; revert q_hy1; revert q_hL; revert q_hb; revert we; revert bP; revert bN; revert y3; revert y2; revert y1; revert bL
                  exact key12
               intro bL y1 y2 y3 bN wd hb hL hy1 hy2 hy3 hN
               refine wpAny_ready (rs := [4, 13]) (by kernel_rfl) (by simp) ?_
               refine AllReady.cons rfl (fun K hK => ?_) (AllReady.cons rfl (fun K hK => ?_) AllReady.nil)
               · skip
                 obtain ⟨s1, hc, hlz⟩ := Lits.of_box (n := 8) hL.out.1 (by kernel_rfl) rfl y1 hy1.out
                 have h1 := Lib.hid hlz
                 clear hlz
                 go_simp
                 refine hK _ _ ?_
                 clear hK K
                 clear hc
                 try simp only [Act.put, List.setIfInBounds_toArray, List.set_cons_zero, List.set_cons_succ]
                 clear hL hy1
                 refine takeYes 12 19 ?v36 rfl rfl (by kernel_rfl) (by kernel_rfl) (by kernel_rfl) (fun _ _ _ _ h => h) (by kernel_rfl) ?y36 ?r36
                 case y36 => intro w; go_simp; first | done | with_reducible rfl
                 simp only [Act.put, List.setIfInBounds_toArray, List.set_cons_zero, List.set_cons_succ]
                 revert hN; revert hy3; revert hy2; revert h1; revert hb; revert wd; revert bN; revert y3; revert y2; revert s1; revert y1; revert bL
                 exact key1
               · skip
                 go_simp
                 refine hK _ _ ?_
                 clear hK K
                 have hD : Drew wd g (wd.alloc (.cells #[.string ⟨#[]⟩, .int .i64 0, .int .i64 0, .int .i64 0, .slice none 0 0] 67)) := Drew.of_ext hb.out.1.1 ((Ext.refl _).alloc _)
                 have hP := Lib.hid (And.intro (Box.new wd #[.string ⟨#[]⟩, .int .i64 0, .int .i64 0, .int .i64 0, .slice none 0 0] 67) hb.out.2.lt)
                 generalize wd.alloc (.cells #[.string ⟨#[]⟩, .int .i64 0, .int .i64 0, .int .i64 0, .slice none 0 0] 67) = we at hD hP ⊢
                 generalize wd.heap.size = bP at hP ⊢
                 try simp only [Act.put, List.setIfInBounds_toArray, List.set_cons_zero, List.set_cons_succ]
                 have q_hb := Lib.hid (And.intro (hb.out.1.trans hD) (hb.out.2.drew hD hwg))
                 have q_hL := Lib.hid (And.intro (hL.out.1.drew hD hL.out.2) hL.out.2)
                 have q_hy1 := Lib.hid (hy1.out)
                 have q_hy2 := Lib.hid (hy2.out)
                 have q_hy3 := Lib.hid (hy3.out)
                 have q_hN := Lib.hid (hN.out.drawn hD.2 hg)
                 clear hD hb hL hy1 hy2 hy3 hN
                 clear wd
                 revert hP; revert q_hN; revert q_hy3; revert q_hy2; revert q_hy1; revert q_hL; revert q_hb; revert we; revert bP; revert bN; revert y3; revert y2; revert y1; revert bL
                 exact key12
              intro bL y1 y2 y3 bN bP wd hb hL hy1 hy2 hy3 hN hP
              refine wpAny_ready (rs := [4]) (by kernel_rfl) (by simp) ?_
              refine AllReady.cons rfl (fun K hK => ?_) AllReady.nil
              skip
              obtain ⟨s1, hc, hlz⟩ := Lits.of_box (n := 8) hL.out.1 (by kernel_rfl) rfl y1 hy1.out
              have h1 := Lib.hid hlz
              clear hlz
              go_simp
              refine hK _ _ ?_
              clear hK K
              clear hc
              try simp only [Act.put, List.setIfInBounds_toArray, List.set_cons_zero, List.set_cons_succ]
              clear hL hy1
              refine takeYes 12 19 ?v37 rfl rfl (by kernel_rfl) (by kernel_rfl) (by kernel_rfl) (fun _ _ _ _ h => h) (by kernel_rfl) ?y37 ?r37
              case y37 => intro w; go_simp; first | done | with_reducible rfl
              simp only [Act.put, List.setIfInBounds_toArray, List.set_cons_zero, List.set_cons_succ]
              revert hP; revert hN; revert hy3; revert hy2; revert h1; revert hb; revert wd; revert bP; revert bN; revert y3; revert y2; revert s1; revert y1; revert bL
              exact key0
             intro bL y1 s1 wd hb h1
             refine wpAny_ready (rs := [6, 11, 13]) (by kernel_rfl) (by simp) ?_
             refine AllReady.cons rfl (fun K hK => ?_) (AllReady.cons rfl (fun K hK => ?_) (AllReady.cons rfl (fun K hK => ?_) AllReady.nil))
             · skip
               go_simp
               refine (l01Next_any _ _ _ hb.out.1.1 (by decide)).mono ?_
               rintro e we ⟨z2, rfl, hz0, hz1, hD0⟩
               obtain ⟨y2, rfl, hyn⟩ := pick_nat 6 rfl (by decide) hz0 hz1
               have hy2 := Lib.hid hyn
               have hD := hD0.drew
               clear hz0 hz1 hD0 hyn
               go_wp2_with fail
               try simp only [Act.put, List.setIfInBounds_toArray, List.set_cons_zero, List.set_cons_succ]
               have q_hb := Lib.hid (And.intro (hb.out.1.trans hD) (hb.out.2.drew hD hwg))
               have q_h1 := Lib.hid (h1.out)
               clear hD hb h1
               clear wd
               revert hy2; revert q_h1; revert q_hb; revert we; revert y2; revert s1; revert y1; revert bL
               exact key7
             · skip
               go_simp
               refine hK _ _ ?_
               clear hK K
               have hD : Drew wd g (wd.alloc (.cells #[] 69)) := Drew.of_ext hb.out.1.1 ((Ext.refl _).alloc _)
               have hN := Lib.hid ((OwnG.lit layName 69 wd (Nat.le_of_lt hb.out.2.lt) [] #[] rfl (by simp) : OwnG layName 69 (wd.alloc (.cells #[] 69)) w.heap.size (some ⟨wd.heap.size, 0, none⟩) 0 0 []))
               generalize wd.alloc (.cells #[] 69) = we at hD hN ⊢
               generalize wd.heap.size = bN at hN ⊢
               try simp only [Act.put, List.setIfInBounds_toArray, List.set_cons_zero, List.set_cons_succ]
               have q_hb := Lib.hid (And.intro (hb.out.1.trans hD) (hb.out.2.drew hD hwg))
               have q_h1 := Lib.hid (h1.out)
               clear hD hb h1
               clear wd
               revert hN; revert q_h1; revert q_hb; revert we; revert bN; revert s1; revert y1; revert bL
               exact key9
             · skip
               go_simp
               refine hK _ _ ?_
               clear hK K
               have hD : Drew wd g (wd.alloc (.cells #[.string ⟨#[]⟩, .int .i64 0, .int .i64 0, .int .i64 0, .slice none 0 0] 67)) := Drew.of_ext hb.out.1.1 ((Ext.refl _).alloc _)
               have hP := Lib.hid (And.intro (Box.new wd #[.string ⟨#[]⟩, .int .i64 0, .int .i64 0, .int .i64 0, .slice none 0 0] 67) hb.out.2.lt)
               generalize wd.alloc (.cells #[.string ⟨#[]⟩, .int .i64 0, .int .i64 0, .int .i64 0, .slice none 0 0] 67) = we at hD hP ⊢
               generalize wd.heap.size = bP at hP ⊢
               try simp only [Act.put, List.setIfInBounds_toArray, List.set_cons_zero, List.set_cons_succ]
               have q_hb := Lib.hid (And.intro (hb.out.1.trans hD) (hb.out.2.drew hD hwg))
               have q_h1 := Lib.hid (h1.out)
               clear hD hb h1
               clear wd
               revert hP; revert q_h1; revert q_hb; revert we; revert bP; revert s1; revert y1; revert bL
               exact key10
            intro bL y1 s1 bP wd hb h1 hP
            refine wpAny_ready (rs := [6, 11]) (by kernel_rfl) (by simp) ?_
            refine AllReady.cons rfl (fun K hK => ?_) (AllReady.cons rfl (fun K hK => ?_) AllReady.nil)
            · skip
              go_simp
              refine (l01Next_any _ _ _ hb.out.1.1 (by decide)).mono ?_
              rintro e we ⟨z2, rfl, hz0, hz1, hD0⟩
              obtain ⟨y2, rfl, hyn⟩ := pick_nat 6 rfl (by decide) hz0 hz1
              have hy2 := Lib.hid hyn
              have hD := hD0.drew
              clear hz0 hz1 hD0 hyn
              go_wp2_with fail
              try simp only [Act.put, List.setIfInBounds_toArray, List.set_cons_zero, List.set_cons_succ]
              have q_hb := Lib.hid (And.intro (hb.out.1.trans hD) (hb.out.2.drew hD hwg))
              have q_h1 := Lib.hid (h1.out)
              have q_hP := Lib.hid (And.intro (hP.out.1.drew hD (Nat.ne_of_gt (Nat.lt_trans hg hP.out.2))) hP.out.2)
              clear hD hb h1 hP
              clear wd
              revert q_hP; revert hy2; revert q_h1; revert q_hb; revert we; revert bP; revert y2; revert s1; revert y1; revert bL
              exact key6
            · skip
              go_simp
              refine hK _ _ ?_
              clear hK K
              have hD : Drew wd g (wd.alloc (.cells #[] 69)) := Drew.of_ext hb.out.1.1 ((Ext.refl _).alloc _)
              have hN := Lib.hid ((OwnG.lit layName 69 wd (Nat.le_of_lt hb.out.2.lt) [] #[] rfl (by simp) : OwnG layName 69 (wd.alloc (.cells #[] 69)) w.heap.size (some ⟨wd.heap.size, 0, none⟩) 0 0 []))
              generalize wd.alloc (.cells #[] 69) = we at hD hN ⊢
              generalize wd.heap.size = bN at hN ⊢
              try simp only [Act.put, List.setIfInBounds_toArray, List.set_cons_zero, List.set_cons_succ]
              have q_hb := Lib.hid (And.intro (hb.out.1.trans hD) (hb.out.2.drew hD hwg))
              have q_h1 := Lib.hid (h1.out)
              have q_hP := Lib.hid (And.intro (hP.out.1.drew hD (Nat.ne_of_gt (Nat.lt_trans hg hP.out.2))) hP.out.2)
              clear hD hb h1 hP
              clear wd
              revert q_hP; revert hN; revert q_h1; revert q_hb; revert we; revert bP; revert bN; revert s1; revert y1; revert bL
              exact key8
           intro bL y1 s1 bN wd hb h1 hN
           refine wpAny_ready (rs := [6, 13]) (by kernel_rfl) (by simp) ?_
           refine AllReady.cons rfl (fun K hK => ?_) (AllReady.cons rfl (fun K hK => ?_) AllReady.nil)
           · skip
             go_simp
             refine (l01Next_any _ _ _ hb.out.1.1 (by decide)).mono ?_
             rintro e we ⟨z2, rfl, hz0, hz1, hD0⟩
             obtain ⟨y2, rfl, hyn⟩ := pick_nat 6 rfl (by decide) hz0 hz1
             have hy2 := Lib.hid hyn
             have hD := hD0.drew
             clear hz0 hz1 hD0 hyn
             go_wp2_with fail
             try simp only [Act.put, List.setIfInBounds_toArray, List.set_cons_zero, List.set_cons_succ]
             have q_hb := Lib.hid (And.intro (hb.out.1.trans hD) (hb.out.2.drew hD hwg))
             have q_h1 := Lib.hid (h1.out)
             have q_hN := Lib.hid (hN.out.drawn hD.2 hg)
             clear hD hb h1 hN
             clear wd
             revert q_hN; revert hy2; revert q_h1; revert q_hb; revert we; revert bN; revert y2; revert s1; revert y1; revert bL
             exact key5
           · skip
             go_simp
             refine hK _ _ ?_
             clear hK K
             have hD : Drew wd g (wd.alloc (.cells #[.string ⟨#[]⟩, .int .i64 0, .int .i64 0, .int .i64 0, .slice none 0 0] 67)) := Drew.of_ext hb.out.1.1 ((Ext.refl _).alloc _)
             have hP := Lib.hid (And.intro (Box.new wd #[.string ⟨#[]⟩, .int .i64 0, .int .i64 0, .int .i64 0, .slice none 0 0] 67) hb.out.2.lt)
             generalize wd.alloc (.cells #[.string ⟨#[]⟩, .int .i64 0, .int .i64 0, .int .i64 0, .slice none 0 0] 67) = we at hD hP ⊢
             generalize wd.heap.size = bP at hP ⊢
             try simp only [Act.put, List.setIfInBounds_toArray, List.set_cons_zero, List.set_cons_succ]
             have q_hb := Lib.hid (And.intro (hb.out.1.trans hD) (hb.out.2.drew hD hwg))
             have q_h1 := Lib.hid (h1.out)
             have q_hN := Lib.hid (hN.out.drawn hD.2 hg)
             clear hD hb h1 hN
             clear wd
             revert hP; revert q_hN; revert q_h1; revert q_hb; revert we; revert bP; revert bN; revert s1; revert y1; revert bL
             exact key8
          intro bL y1 s1 bN bP wd hb h1 hN hP
          refine wpAny_ready (rs := [6]) (by kernel_rfl) (by simp) ?_
          refine AllReady.cons rfl (fun K hK => ?_) AllReady.nil
          skip
          go_simp
          refine (l01Next_any _ _ _ hb.out.1.1 (by decide)).mono ?_
          rintro e we ⟨z2, rfl, hz0, hz1, hD0⟩
          obtain ⟨y2, rfl, hyn⟩ := pick_nat 6 rfl (by decide) hz0 hz1
          have hy2 := Lib.hid hyn
          have hD := hD0.drew
          clear hz0 hz1 hD0 hyn
          go_wp2_with fail
          try simp only [Act.put, List.setIfInBounds_toArray, List.set_cons_zero, List.set_cons_succ]
          have q_hb := Lib.hid (And.intro (hb.out.1.trans hD) (hb.out.2.drew hD hwg))
          have q_h1 := Lib.hid (h1.out)
          have q_hN := Lib.hid (hN.out.drawn hD.2 hg)
          have q_hP := Lib.hid (And.intro (hP.out.1.drew hD (Nat.ne_of_gt (Nat.lt_trans hg hP.out.2))) hP.out.2)
          clear hD hb h1 hN hP
          clear wd
          revert q_hP; revert q_hN; revert hy2; revert q_h1; revert q_hb; revert we; revert bP; revert bN; revert y2; revert s1; revert y1; revert bL
          exact key4
         intro bL y1 s1 y2 wd hb h1 hy2
         refine wpAny_ready (rs := [8, 11, 13]) (by kernel_rfl) (by simp) ?_
         refine AllReady.cons rfl (fun K hK => ?_) (AllReady.cons rfl (fun K hK => ?_) (AllReady.cons rfl (fun K hK => ?_) AllReady.nil))
         · skip
           go_simp
           refine (l01Next_any _ _ _ hb.out.1.1 (by decide)).mono ?_
           rintro e we ⟨z3, rfl, hz0, hz1, hD0⟩
           obtain ⟨y3, rfl, hyn⟩ := pick_nat 600 rfl (by decide) hz0 hz1
           have hy3 := Lib.hid hyn
           have hD := hD0.drew
           clear hz0 hz1 hD0 hyn
           go_wp2_with fail
           try simp only [Act.put, List.setIfInBounds_toArray, List.set_cons_zero, List.set_cons_succ]
           have q_hb := Lib.hid (And.intro (hb.out.1.trans hD) (hb.out.2.drew hD hwg))
           have q_h1 := Lib.hid (h1.out)
           have q_hy2 := Lib.hid (hy2.out)
           clear hD hb h1 hy2
           clear wd
           have hy3i := (show IntKind.i64.wrap (1000 + (y3 : Int)) = 1000 + (y3 : Int) from IntWalk.i64_in _ (addy hy3.out))
           refine takeYes 9 16 ?v38 rfl rfl (by kernel_rfl) (by kernel_rfl) (by kernel_rfl) (fun _ _ _ _ h => h) (by kernel_rfl) ?y38 ?r38
           case y38 => intro w; go_simp; first | done | with_reducible rfl
           simp only [Act.put, List.setIfInBounds_toArray, List.set_cons_zero, List.set_cons_succ]
           refine takeYes 10 17 ?v39 rfl rfl (by kernel_rfl) (by kernel_rfl) (by kernel_rfl) (fun _ _ _ _ h => h) (by kernel_rfl) ?y39 ?r39
           case y39 => intro w; go_simp; first | done | with_reducible rfl
           simp only [Act.put, List.setIfInBounds_toArray, List.set_cons_zero, List.set_cons_succ]
           clear hy3i
           revert hy3; revert q_hy2; revert q_h1; revert q_hb; revert we; revert y3; revert y2; revert s1; revert y1; revert bL
           exact key3
         · skip
           go_simp
           refine hK _ _ ?_
           clear hK K
           have hD : Drew wd g (wd.alloc (.cells #[] 69)) := Drew.of_ext hb.out.1.1 ((Ext.refl _).alloc _)
           have hN := Lib.hid ((OwnG.lit layName 69 wd (Nat.le_of_lt hb.out.2.lt) [] #[] rfl (by simp) : OwnG layName 69 (wd.alloc (.cells #[] 69)) w.heap.size (some ⟨wd.heap.size, 0, none⟩) 0 0 []))
           generalize wd.alloc (.cells #[] 69) = we at hD hN ⊢
           generalize wd.heap.size = bN at hN ⊢
           try simp only [Act.put, List.setIfInBounds_toArray, List.set_cons_zero, List.set_cons_succ]
           have q_hb := Lib.hid (And.intro (hb.out.1.trans hD) (hb.out.2.drew hD hwg))
           have q_h1 := Lib.hid (h1.out)
           have q_hy2 := Lib.hid (hy2.out)
           clear hD hb h1 hy2
           clear wd
           revert hN; revert q_hy2; revert q_h1; revert q_hb; revert we; revert bN; revert y2; revert s1; revert y1; revert bL
           exact key5
         · skip
           go_simp
           refine hK _ _ ?_
           clear hK K
           have hD : Drew wd g (wd.alloc (.cells #[.string ⟨#[]⟩, .int .i64 0, .int .i64 0, .int .i64 0, .slice none 0 0] 67)) := Drew.of_ext hb.out.1.1 ((Ext.refl _).alloc _)
           have hP := Lib.hid (And.intro (Box.new wd #[.string ⟨#[]⟩, .int .i64 0, .int .i64 0, .int .i64 0, .slice none 0 0] 67) hb.out.2.lt)
           generalize wd.alloc (.cells #[.string ⟨#[]⟩, .int .i64 0, .int .i64 0, .int .i64 0, .slice none 0 0] 67) = we at hD hP ⊢
           generalize wd.heap.size = bP at hP ⊢
           try simp only [Act.put, List.setIfInBounds_toArray, List.set_cons_zero, List.set_cons_succ]
           have q_hb := Lib.hid (And.intro (hb.out.1.trans hD) (hb.out.2.drew hD hwg))
           have q_h1 := Lib.hid (h1.out)
           have q_hy2 := Lib.hid (hy2.out)
           clear hD hb h1 hy2
           clear wd
           revert hP; revert q_hy2; revert q_h1; revert q_hb; revert we; revert bP; revert y2; revert s1; revert y1; revert bL
           exact key6
        intro bL y1 s1 y2 bP wd hb h1 hy2 hP
        refine wpAny_ready (rs := [8, 11]) (by kernel_rfl) (by simp) ?_
        refine AllReady.cons rfl (fun K hK => ?_) (AllReady.cons rfl (fun K hK => ?_) AllReady.nil)
        · skip
          go_simp
          refine (l01Next_any _ _ _ hb.out.1.1 (by decide)).mono ?_
          rintro e we ⟨z3, rfl, hz0, hz1, hD0⟩
          obtain ⟨y3, rfl, hyn⟩ := pick_nat 600 rfl (by decide) hz0 hz1
          have hy3 := Lib.hid hyn
          have hD := hD0.drew
          clear hz0 hz1 hD0 hyn
          go_wp2_with fail
          try simp only [Act.put, List.setIfInBounds_toArray, List.set_cons_zero, List.set_cons_succ]
          have q_hb := Lib.hid (And.intro (hb.out.1.trans hD) (hb.out.2.drew hD hwg))
          have q_h1 := Lib.hid (h1.out)
          have q_hy2 := Lib.hid (hy2.out)
          have q_hP := Lib.hid (And.intro (hP.out.1.drew hD (Nat.ne_of_gt (Nat.lt_trans hg hP.out.2))) hP.out.2)
          clear hD hb h1 hy2 hP
          clear wd
          have hy3i := (show IntKind.i64.wrap (1000 + (y3 : Int)) = 1000 + (y3 : Int) from IntWalk.i64_in _ (addy hy3.out))
          refine takeYes 9 16 ?v40 rfl rfl (by kernel_rfl) (by kernel_rfl) (by kernel_rfl) (fun _ _ _ _ h => h) (by kernel_rfl) ?y40 ?r40
          case y40 => intro w; go_simp; first | done | with_reducible rfl
          simp only [Act.put, List.setIfInBounds_toArray, List.set_cons_zero, List.set_cons_succ]
          refine takeYes 10 17 ?v41 rfl rfl (by kernel_rfl) (by kernel_rfl) (by kernel_rfl) (fun _ _ _ _ h => h) (by kernel_rfl) ?y41 ?r41
          case y41 => intro w; go_simp; first | done | with_reducible rfl
          simp only [Act.put, List.setIfInBounds_toArray, List.set_cons_zero, List.set_cons_succ]
          clear hy3i
          revert q_hP; revert hy3; revert q_hy2; revert q_h1; revert q_hb; revert we; revert bP; revert y3; revert y2; revert s1; revert y1; revert bL
          exact key2
        · skip
          go_simp
          refine hK _ _ ?_
          clear hK K
          have hD : Drew wd g (wd.alloc (.cells #[] 69)) := Drew.of_ext hb.out.1.1 ((Ext.refl _).alloc _)
          have hN := Lib.hid ((OwnG.lit layName 69 wd (Nat.le_of_lt hb.out.2.lt) [] #[] rfl (by simp) : OwnG layName 69 (wd.alloc (.cells #[] 69)) w.heap.size (some ⟨wd.heap.size, 0, none⟩) 0 0 []))
          generalize wd.alloc (.cells #[] 69) = we at hD hN ⊢
          generalize wd.heap.size = bN at hN ⊢
          try simp only [Act.put, List.setIfInBounds_toArray, List.set_cons_zero, List.set_cons_succ]
          have q_hb := Lib.hid (And.intro (hb.out.1.trans hD) (hb.out.2.drew hD hwg))
          have q_h1 := Lib.hid (h1.out)
          have q_hy2 := Lib.hid (hy2.out)
          have q_hP := Lib.hid (And.intro (hP.out.1.drew hD (Nat.ne_of_gt (Nat.lt_trans hg hP.out.2))) hP.out.2)
          clear hD hb h1 hy2 hP
          clear wd
          revert q_hP; revert hN; revert q_hy2; revert q_h1; revert q_hb; revert we; revert bP; revert bN; revert y2; revert s1; revert y1; revert bL
          exact key4
       intro bL y1 s1 y2 bN wd hb h1 hy2 hN
       refine wpAny_ready (rs := [8, 13]) (by kernel_rfl) (by simp) ?_
       refine AllReady.cons rfl (fun K hK => ?_) (AllReady.cons rfl (fun K hK => ?_) AllReady.nil)
       · skip
         go_simp
         refine (l01Next_any _ _ _ hb.out.1.1 (by decide)).mono ?_
         rintro e we ⟨z3, rfl, hz0, hz1, hD0⟩
         obtain ⟨y3, rfl, hyn⟩ := pick_nat 600 rfl (by decide) hz0 hz1
         have hy3 := Lib.hid hyn
         have hD := hD0.drew
         clear hz0 hz1 hD0 hyn
         go_wp2_with fail
         try simp only [Act.put, List.setIfInBounds_toArray, List.set_cons_zero, List.set_cons_succ]
         have q_hb := Lib.hid (And.intro (hb.out.1.trans hD) (hb.out.2.drew hD hwg))
         have q_h1 := Lib.hid (h1.out)
         have q_hy2 := Lib.hid (hy2.out)
         have q_hN := Lib.hid (hN.out.drawn hD.2 hg)
         clear hD hb h1 hy2 hN
         clear wd
         have hy3i := (show IntKind.i64.wrap (1000 + (y3 : Int)) = 1000 + (y3 : Int) from IntWalk.i64_in _ (addy hy3.out))
         refine takeYes 9 16 ?v42 rfl rfl (by kernel_rfl) (by kernel_rfl) (by kernel_rfl) (fun _ _ _ _ h => h) (by kernel_rfl) ?y42 ?r42
         case y42 => intro w; go_simp; first | done | with_reducible rfl
         simp only [Act.put, List.setIfInBounds_toArray, List.set_cons_zero, List.set_cons_succ]
         refine takeYes 10 17 ?v43 rfl rfl (by kernel_rfl) (by kernel_rfl) (by kernel_rfl) (fun _ _ _ _ h => h) (by kernel_rfl) ?y43 ?r43
         case y43 => intro w; go_simp; first | done | with_reducible rfl
         simp only [Act.put, List.setIfInBounds_toArray, List.set_cons_zero, List.set_cons_succ]
         refine takeYes 12 19 ?v44 rfl rfl (by kernel_rfl) (by kernel_rfl) (by kernel_rfl) (fun _ _ _ _ h => h) (by kernel_rfl) ?y44 ?r44
         case y44 => intro w; go_simp; first | done | with_reducible rfl
         simp only [Act.put, List.setIfInBounds_toArray, List.set_cons_zero, List.set_cons_succ]
         clear hy3i
         revert q_hN; revert hy3; revert q_hy2; revert q_h1; revert q_hb; revert we; revert bN; revert y3; revert y2; revert s1; revert y1; revert bL
         exact key1
       · skip
         go_simp
         refine hK _ _ ?_
         clear hK K
         have hD : Drew wd g (wd.alloc (.cells #[.string ⟨#[]⟩, .int .i64 0, .int .i64 0, .int .i64 0, .slice none 0 0] 67)) := Drew.of_ext hb.out.1.1 ((Ext.refl _).alloc _)
         have hP := Lib.hid (And.intro (Box.new wd #[.string ⟨#[]⟩, .int .i64 0, .int .i64 0, .int .i64 0, .slice none 0 0] 67) hb.out.2.lt)
         generalize wd.alloc (.cells #[.string ⟨#[]⟩, .int .i64 0, .int .i64 0, .int .i64 0, .slice none 0 0] 67) = we at hD hP ⊢
         generalize wd.heap.size = bP at hP ⊢
         try simp only [Act.put, List.setIfInBounds_toArray, List.set_cons_zero, List.set_cons_succ]
         have q_hb := Lib.hid (And.intro (hb.out.1.trans hD) (hb.out.2.drew hD hwg))
         have q_h1 := Lib.hid (h1.out)
         have q_hy2 := Lib.hid (hy2.out)
         have q_hN := Lib.hid (hN.out.drawn hD.2 hg)
         clear hD hb h1 hy2 hN
         clear wd
         revert hP; revert q_hN; revert q_hy2; revert q_h1; revert q_hb; revert we; revert bP; revert bN; revert y2; revert s1; revert y1; revert bL
         exact key4
      intro bL y1 s1 y2 bN bP wd hb h1 hy2 hN hP
      refine wpAny_ready (rs := [8]) (by kernel_rfl) (by simp) ?_
      refine AllReady.cons rfl (fun K hK => ?_) AllReady.nil
      skip
      go_simp
      refine (l01Next_any _ _ _ hb.out.1.1 (by decide)).mono ?_
      rintro e we ⟨z3, rfl, hz0, hz1, hD0⟩
      obtain ⟨y3, rfl, hyn⟩ := pick_nat 600 rfl (by decide) hz0 hz1
      have hy3 := Lib.hid hyn
      have hD := hD0.drew
      clear hz0 hz1 hD0 hyn
      go_wp2_with fail
      try simp only [Act.put, List.setIfInBounds_toArray, List.set_cons_zero, List.set_cons_succ]
      have q_hb := Lib.hid (And.intro (hb.out.1.trans hD) (hb.out.2.drew hD hwg))
      have q_h1 := Lib.hid (h1.out)
      have q_hy2 := Lib.hid (hy2.out)
      have q_hN := Lib.hid (hN.out.drawn hD.2 hg)
      have q_hP := Lib.hid (And.intro (hP.out.1.drew hD (Nat.ne_of_gt (Nat.lt_trans hg hP.out.2))) hP.out.2)
      clear hD hb h1 hy2 hN hP
      clear wd
      have hy3i := (show IntKind.i64.wrap (1000 + (y3 : Int)) = 1000 + (y3 : Int) from IntWalk.i64_in _ (addy hy3.out))
      refine takeYes 9 16 ?v45 rfl rfl (by kernel_rfl) (by kernel_rfl) (by kernel_rfl) (fun _ _ _ _ h => h) (by kernel_rfl) ?y45 ?r45
      case y45 => intro w; go_simp; first | done | with_reducible rfl
      simp only [Act.put, List.setIfInBounds_toArray, List.set_cons_zero, List.set_cons_succ]
      refine takeYes 10 17 ?v46 rfl rfl (by kernel_rfl) (by kernel_rfl) (by kernel_rfl) (fun _ _ _ _ h => h) (by kernel_rfl) ?y46 ?r46
      case y46 => intro w; go_simp; first | done | with_reducible rfl
      simp only [Act.put, List.setIfInBounds_toArray, List.set_cons_zero, List.set_cons_succ]
      refine takeYes 12 19 ?v47 rfl rfl (by kernel_rfl) (by kernel_rfl) (by kernel_rfl) (fun _ _ _ _ h => h) (by kernel_rfl) ?y47 ?r47
      case y47 => intro w; go_simp; first | done | with_reducible rfl
      simp only [Act.put, List.setIfInBounds_toArray, List.set_cons_zero, List.set_cons_succ]
      clear hy3i
      revert q_hP; revert q_hN; revert hy3; revert q_hy2; revert q_h1; revert q_hb; revert we; revert bP; revert bN; revert y3; revert y2; revert s1; revert y1; revert bL
      exact key0
     intro bL y1 s1 y2 y3 wd hb h1 hy2 hy3
     refine wpAny_ready (rs := [11, 13]) (by kernel_rfl) (by simp) ?_
     refine AllReady.cons rfl (fun K hK => ?_) (AllReady.cons rfl (fun K hK => ?_) AllReady.nil)
     · skip
       go_simp
       refine hK _ _ ?_
       clear hK K
       have hD : Drew wd g (wd.alloc (.cells #[] 69)) := Drew.of_ext hb.out.1.1 ((Ext.refl _).alloc _)
       have hN := Lib.hid ((OwnG.lit layName 69 wd (Nat.le_of_lt hb.out.2.lt) [] #[] rfl (by simp) : OwnG layName 69 (wd.alloc (.cells #[] 69)) w.heap.size (some ⟨wd.heap.size, 0, none⟩) 0 0 []))
       generalize wd.alloc (.cells #[] 69) = we at hD hN ⊢
       generalize wd.heap.size = bN at hN ⊢
       try simp only [Act.put, List.setIfInBounds_toArray, List.set_cons_zero, List.set_cons_succ]
       have q_hb := Lib.hid (And.intro (hb.out.1.trans hD) (hb.out.2.drew hD hwg))
       have q_h1 := Lib.hid (h1.out)
       have q_hy2 := Lib.hid (hy2.out)
       have q_hy3 := Lib.hid (hy3.out)
       clear hD hb h1 hy2 hy3
       clear wd
       refine takeYes 12 19 ?v48 rfl rfl (by kernel_rfl) (by kernel_rfl) (by kernel_rfl) (fun _ _ _ _ h => h) (by kernel_rfl) ?y48 ?r48
       case y48 => intro w; go_simp; first | done | with_reducible rfl
       simp only [Act.put, List.setIfInBounds_toArray, List.set_cons_zero, List.set_cons_succ]
       revert hN; revert q_hy3; revert q_hy2; revert q_h1; revert q_hb; revert we; revert bN; revert y3; revert y2; revert s1; revert y1; revert bL
       exact key1
     · skip
       go_simp
       refine hK _ _ ?_
       clear hK K
       have hD : Drew wd g (wd.alloc (.cells #[.string ⟨#[]⟩, .int .i64 0, .int .i64 0, .int .i64 0, .slice none 0 0] 67)) := Drew.of_ext hb.out.1.1 ((Ext.refl _).alloc _)
       have hP := Lib.hid (And.intro (Box.new wd #[.string ⟨#[]⟩, .int .i64 0, .int .i64 0, .int .i64 0, .slice none 0 0] 67) hb.out.2.lt)
       generalize wd.alloc (.cells #[.string ⟨#[]⟩, .int .i64 0, .int .i64 0, .int .i64 0, .slice none 0 0] 67) = we at hD hP ⊢
       generalize wd.heap.size = bP at hP ⊢
       try simp only [Act.put, List.setIfInBounds_toArray, List.set_cons_zero, List.set_cons_succ]
       have q_hb := Lib.hid (And.intro (hb.out.1.trans hD) (hb.out.2.drew hD hwg))
       have q_h1 := Lib.hid (h1.out)
       have q_hy2 := Lib.hid (hy2.out)
       have q_hy3 := Lib.hid (hy3.out)
       clear hD hb h1 hy2 hy3
       clear wd
       revert hP; revert q_hy3; revert q_hy2; revert q_h1; revert q_hb; revert we; revert bP; revert y3; revert y2; revert s1; revert y1; revert bL
       exact key2
    intro bL y1 s1 y2 y3 bP wd hb h1 hy2 hy3 hP
    refine wpAny_ready (rs := [11]) (by kernel_rfl) (by simp) ?_
    refine AllReady.cons rfl (fun K hK => ?_) AllReady.nil
    skip
    go_simp
    refine hK _ _ ?_
    clear hK K
    have hD : Drew wd g (wd.alloc (.cells #[] 69)) := Drew.of_ext hb.out.1.1 ((Ext.refl _).alloc _)
    have hN := Lib.hid ((OwnG.lit layName 69 wd (Nat.le_of_lt hb.out.2.lt) [] #[] rfl (by simp) : OwnG layName 69 (wd.alloc (.cells #[] 69)) w.heap.size (some ⟨wd.heap.size, 0, none⟩) 0 0 []))
    generalize wd.alloc (.cells #[] 69) = we at hD hN ⊢
    generalize wd.heap.size = bN at hN ⊢
    try simp only [Act.put, List.setIfInBounds_toArray, List.set_cons_zero, List.set_cons_succ]
    have q_hb := Lib.hid (And.intro (hb.out.1.trans hD) (hb.out.2.drew hD hwg))
    have q_h1 := Lib.hid (h1.out)
    have q_hy2 := Lib.hid (hy2.out)
    have q_hy3 := Lib.hid (hy3.out)
    have q_hP := Lib.hid (And.intro (hP.out.1.drew hD (Nat.ne_of_gt (Nat.lt_trans hg hP.out.2))) hP.out.2)
    clear hD hb h1 hy2 hy3 hP
    clear wd
    refine takeYes 12 19 ?v49 rfl rfl (by kernel_rfl) (by kernel_rfl) (by kernel_rfl) (fun _ _ _ _ h => h) (by kernel_rfl) ?y49 ?r49
    case y49 => intro w; go_simp; first | done | with_reducible rfl
    simp only [Act.put, List.setIfInBounds_toArray, List.set_cons_zero, List.set_cons_succ]
    revert q_hP; revert hN; revert q_hy3; revert q_hy2; revert q_h1; revert q_hb; revert we; revert bP; revert bN; revert y3; revert y2; revert s1; revert y1; revert bL
    exact key0
   intro bL y1 s1 y2 y3 bN wd hb h1 hy2 hy3 hN
   refine wpAny_ready (rs := [13]) (by kernel_rfl) (by simp) ?_
   refine AllReady.cons rfl (fun K hK => ?_) AllReady.nil
   skip
   go_simp
   refine hK _ _ ?_
   clear hK K
   have hD : Drew wd g (wd.alloc (.cells #[.string ⟨#[]⟩, .int .i64 0, .int .i64 0, .int .i64 0, .slice none 0 0] 67)) := Drew.of_ext hb.out.1.1 ((Ext.refl _).alloc _)
   have hP := Lib.hid (And.intro (Box.new wd #[.string ⟨#[]⟩, .int .i64 0, .int .i64 0, .int .i64 0, .slice none 0 0] 67) hb.out.2.lt)
   generalize wd.alloc (.cells #[.string ⟨#[]⟩, .int .i64 0, .int .i64 0, .int .i64 0, .slice none 0 0] 67) = we at hD hP ⊢
   generalize wd.heap.size = bP at hP ⊢
   try simp only [Act.put, List.setIfInBounds_toArray, List.set_cons_zero, List.set_cons_succ]
   have q_hb := Lib.hid (And.intro (hb.out.1.trans hD) (hb.out.2.drew hD hwg))
   have q_h1 := Lib.hid (h1.out)
   have q_hy2 := Lib.hid (hy2.out)
   have q_hy3 := Lib.hid (hy3.out)
   have q_hN := Lib.hid (hN.out.drawn hD.2 hg)
   clear hD hb h1 hy2 hy3 hN
   clear wd
   revert hP; revert q_hN; revert q_hy3; revert q_hy2; revert q_h1; revert q_hb; revert we; revert bP; revert bN; revert y3; revert y2; revert s1; revert y1; revert bL
   exact key0
  intro bL y1 s1 y2 y3 bN bP wd hb h1 hy2 hy3 hN hP
  refine wpAny_ready (rs := [14]) (by kernel_rfl) (by simp) ?_
  refine AllReady.cons rfl (fun K hK => ?_) AllReady.nil
  skip
  have bx0 := hP.out.1.cell 0
  have bx1 := hP.out.1.cell 1
  have bx2 := hP.out.1.cell 2
  have bx3 := hP.out.1.cell 3
  have bx4 := hP.out.1.cell 4
  have f0 := hP.out.1.frozen 0
  have f1 := hP.out.1.frozen 1
  have f2 := hP.out.1.frozen 2
  have f3 := hP.out.1.frozen 3
  have f4 := hP.out.1.frozen 4
  go_simp
  refine hK _ _ ?_
  clear hK K
  try simp only [Act.put, List.setIfInBounds_toArray, List.set_cons_zero, List.set_cons_succ]
  refine wpAny_done (by kernel_rfl) ?_ _
  have hgb : g < bP := Nat.lt_trans hg hP.out.2
  have hwb : (w.alloc (.cells #[.string ⟨#[]⟩, .int .i64 0, .int .i64 0, .int .i64 0, .slice none 0 0] 67)).heap.size ≤ bP := by have := hP.out.2; simp; omega
  have hRP := hP.out.2
  have hE := Lib.hid (show Drew (w.alloc (.cells #[.string ⟨#[]⟩, .int .i64 0, .int .i64 0, .int .i64 0, .slice none 0 0] 67)) g (((((wd.setCell ⟨bP, 0, none⟩ (.string s1)).setCell ⟨bP, 1, none⟩ (.int .i64 (y2 : Int))).setCell ⟨bP, 2, none⟩ (.int .i64 (1000 + (y3 : Int)))).setCell ⟨bP, 3, none⟩ (.int .i64 0)).setCell ⟨bP, 4, none⟩ (.slice (some ⟨bN, 0, none⟩) 0 0)) ∧ Box (((((wd.setCell ⟨bP, 0, none⟩ (.string s1)).setCell ⟨bP, 1, none⟩ (.int .i64 (y2 : Int))).setCell ⟨bP, 2, none⟩ (.int .i64 (1000 + (y3 : Int)))).setCell ⟨bP, 3, none⟩ (.int .i64 0)).setCell ⟨bP, 4, none⟩ (.slice (some ⟨bN, 0, none⟩) 0 0)) w.heap.size #[.string ⟨#[]⟩, .int .i64 0, .int .i64 0, .int .i64 0, .slice none 0 0] 67 ∧ Box (((((wd.setCell ⟨bP, 0, none⟩ (.string s1)).setCell ⟨bP, 1, none⟩ (.int .i64 (y2 : Int))).setCell ⟨bP, 2, none⟩ (.int .i64 (1000 + (y3 : Int)))).setCell ⟨bP, 3, none⟩ (.int .i64 0)).setCell ⟨bP, 4, none⟩ (.slice (some ⟨bN, 0, none⟩) 0 0)) bP #[.string s1, .int .i64 (y2 : Int), .int .i64 (1000 + (y3 : Int)), .int .i64 0, .slice (some ⟨bN, 0, none⟩) 0 0] 67 ∧ OwnG layName 69 (((((wd.setCell ⟨bP, 0, none⟩ (.string s1)).setCell ⟨bP, 1, none⟩ (.int .i64 (y2 : Int))).setCell ⟨bP, 2, none⟩ (.int .i64 (1000 + (y3 : Int)))).setCell ⟨bP, 3, none⟩ (.int .i64 0)).setCell ⟨bP, 4, none⟩ (.slice (some ⟨bN, 0, none⟩) 0 0)) w.heap.size (some ⟨bN, 0, none⟩) 0 0 [] from ⟨(((((hb.out.1).setCell hwb hgb 0 _).setCell hwb hgb 1 _).setCell hwb hgb 2 _).setCell hwb hgb 3 _).setCell hwb hgb 4 _, Box.far (Box.far (Box.far (Box.far (Box.far (hb.out.2) (Nat.ne_of_lt hP.out.2) 0 _) (Nat.ne_of_lt hP.out.2) 1 _) (Nat.ne_of_lt hP.out.2) 2 _) (Nat.ne_of_lt hP.out.2) 3 _) (Nat.ne_of_lt hP.out.2) 4 _, (((((hP.out.1).set 0 _).set 1 _).set 2 _).set 3 _).set 4 _, own_off5 hN.out hP.out.1 _ _ _ _ _⟩)
  have hs1 := h1.out
  have hc2 := hy2.out
  have hc3 := hy3.out
  generalize ((((wd.setCell ⟨bP, 0, none⟩ (.string s1)).setCell ⟨bP, 1, none⟩ (.int .i64 (y2 : Int))).setCell ⟨bP, 2, none⟩ (.int .i64 (1000 + (y3 : Int)))).setCell ⟨bP, 3, none⟩ (.int .i64 0)).setCell ⟨bP, 4, none⟩ (.slice (some ⟨bN, 0, none⟩) 0 0) = wx at hE ⊢
  clear hb hN hP h1 hy2 hy3 bx0 bx1 bx2 bx3 bx4 f0 f1 f2 f3 f4
  clear wd
  generalize hf0 : (1000 + (y3 : Int)) = fr at hE ⊢
  have hfr : 1000 ≤ fr ∧ fr < 1600 := by omega
  clear hf0 hc3
  have hbg : bP ≠ g := by omega
  have hne : ¬ w.heap.size = bP := by omega
  have hne2 : ¬ bP = w.heap.size := by omega
  have hw1 : IntKind.i64.wrap (fr + 100) = fr + 100 := IntWalk.i64_in _ (by omega)
  have hfl := Lib.hid hfr
  clear hfr
  go_wp2
  apply withKey
  case h =>
   intro kez0
   apply withKey
   case h =>
    intro kez1
    apply withKey
    case h =>
     intro kez2
     apply withKey
     case h =>
      intro kez3
      refine wp_region_any (by kernel_rfl) ?_
      try (change wpAny _ _ _ _ _ _ _ (World.drew _))
      have hb := Lib.hid (And.intro (hE.out.1.ext (Ext.refl wx).drew) (And.intro (hE.out.2.1.ext (Ext.refl wx).drew) (And.intro (hE.out.2.2.1.ext (Ext.refl wx).drew) (hE.out.2.2.2.ext (Ext.refl wx).drew))))
      generalize wx.drew = wd at hb ⊢
      refine takeYes 0 20 ?v50 rfl rfl (by kernel_rfl) (by kernel_rfl) (by kernel_rfl) (fun _ _ _ _ h => h) (by kernel_rfl) ?y50 ?r50
      case y50 => intro w; go_simp; first | done | with_reducible rfl
      simp only [Act.put, List.setIfInBounds_toArray, List.set_cons_zero, List.set_cons_succ]
      refine takeYes 1 21 ?v51 rfl rfl (by kernel_rfl) (by kernel_rfl) (by kernel_rfl) (fun _ _ _ _ h => h) (by kernel_rfl) ?y51 ?r51
      case y51 => intro w; go_simp; first | done | with_reducible rfl
      simp only [Act.put, List.setIfInBounds_toArray, List.set_cons_zero, List.set_cons_succ]
      refine takeYes 4 24 ?v52 rfl rfl (by kernel_rfl) (by kernel_rfl) (by kernel_rfl) (fun _ _ _ _ h => h) (by kernel_rfl) ?y52 ?r52
      case y52 => intro w; go_simp; first | done | with_reducible rfl
      simp only [Act.put, List.setIfInBounds_toArray, List.set_cons_zero, List.set_cons_succ]
      revert hb; revert wd
      exact kez3
     intro wd hb
     refine wpAny_ready (rs := [2, 5]) (by kernel_rfl) (by simp) ?_
     refine AllReady.cons rfl (fun K hK => ?_) (AllReady.cons rfl (fun K hK => ?_) AllReady.nil)
     · skip
       have q2 : _ = some (Value.int .i64 fr) := hb.out.2.2.1.cell 2
       go_simp
       refine hK _ _ ?_
       clear hK K
       clear q2
       try simp only [Act.put, List.setIfInBounds_toArray, List.set_cons_zero, List.set_cons_succ]
       refine takeYes 3 23 ?v53 rfl rfl (by kernel_rfl) (by kernel_rfl) (by kernel_rfl) (fun _ _ _ _ h => h) (by kernel_rfl) ?y53 ?r53
       case y53 => intro w; go_simp; first | done | with_reducible rfl
       simp only [Act.put, List.setIfInBounds_toArray, List.set_cons_zero, List.set_cons_succ]
       revert hb; revert wd
       exact kez1
     · skip
       go_simp
       refine (l01Next_any _ _ _ hb.out.1.1 (by decide)).mono ?_
       rintro e we ⟨z5, rfl, hz0, hz1, hD0⟩
       obtain ⟨z5, rfl, hyn⟩ := pick_nat 1000 rfl (by decide) hz0 hz1
       have hz5 := Lib.hid hyn
       have hD := hD0.drew
       clear hz0 hz1 hD0 hyn
       go_wp2_with fail
       try simp only [Act.put, List.setIfInBounds_toArray, List.set_cons_zero, List.set_cons_succ]
       have q_hb := Lib.hid (And.intro (hb.out.1.trans hD) (And.intro (hb.out.2.1.drew hD hwg) (And.intro (hb.out.2.2.1.drew hD hbg) (hb.out.2.2.2.drawn hD.2 hg))))
       clear hD hb
       clear wd
       revert hz5; revert q_hb; revert we; revert z5
       exact kez2
    intro z5 wd hb hz5
    refine wpAny_ready (rs := [2]) (by kernel_rfl) (by simp) ?_
    refine AllReady.cons rfl (fun K hK => ?_) AllReady.nil
    skip
    have q2 : _ = some (Value.int .i64 fr) := hb.out.2.2.1.cell 2
    go_simp
    refine hK _ _ ?_
    clear hK K
    clear q2
    try simp only [Act.put, List.setIfInBounds_toArray, List.set_cons_zero, List.set_cons_succ]
    have hz5i := (show IntKind.i64.wrap (fr + 100 + (z5 : Int)) = fr + 100 + (z5 : Int) from IntWalk.i64_in _ (addz hfl.out hz5.out))
    refine takeYes 3 23 ?v54 rfl rfl (by kernel_rfl) (by kernel_rfl) (by kernel_rfl) (fun _ _ _ _ h => h) (by kernel_rfl) ?y54 ?r54
    case y54 => intro w; go_simp; first | done | with_reducible rfl
    simp only [Act.put, List.setIfInBounds_toArray, List.set_cons_zero, List.set_cons_succ]
    refine takeYes 6 26 ?v55 rfl rfl (by kernel_rfl) (by kernel_rfl) (by kernel_rfl) (fun _ _ _ _ h => h) (by kernel_rfl) ?y55 ?r55
    case y55 => intro w; go_simp; first | done | with_reducible rfl
    simp only [Act.put, List.setIfInBounds_toArray, List.set_cons_zero, List.set_cons_succ]
    refine takeYes 7 27 ?v56 rfl rfl (by kernel_rfl) (by kernel_rfl) (by kernel_rfl) (fun _ _ _ _ h => h) (by kernel_rfl) ?y56 ?r56
    case y56 => intro w; go_simp; first | done | with_reducible rfl
    simp only [Act.put, List.setIfInBounds_toArray, List.set_cons_zero, List.set_cons_succ]
    refine takeYes 8 28 ?v57 rfl rfl (by kernel_rfl) (by kernel_rfl) (by kernel_rfl) (fun _ _ _ _ h => h) (by kernel_rfl) ?y57 ?r57
    case y57 => intro w; go_simp; first | done | with_reducible rfl
    simp only [Act.put, List.setIfInBounds_toArray, List.set_cons_zero, List.set_cons_succ]
    clear hz5i
    revert hz5; revert hb; revert wd; revert z5
    exact kez0
   intro wd hb
   refine wpAny_ready (rs := [5]) (by kernel_rfl) (by simp) ?_
   refine AllReady.cons rfl (fun K hK => ?_) AllReady.nil
   skip
   go_simp
   refine (l01Next_any _ _ _ hb.out.1.1 (by decide)).mono ?_
   rintro e we ⟨z5, rfl, hz0, hz1, hD0⟩
   obtain ⟨z5, rfl, hyn⟩ := pick_nat 1000 rfl (by decide) hz0 hz1
   have hz5 := Lib.hid hyn
   have hD := hD0.drew
   clear hz0 hz1 hD0 hyn
   go_wp2_with fail
   try simp only [Act.put, List.setIfInBounds_toArray, List.set_cons_zero, List.set_cons_succ]
   have q_hb := Lib.hid (And.intro (hb.out.1.trans hD) (And.intro (hb.out.2.1.drew hD hwg) (And.intro (hb.out.2.2.1.drew hD hbg) (hb.out.2.2.2.drawn hD.2 hg))))
   clear hD hb
   clear wd
   have hz5i := (show IntKind.i64.wrap (fr + 100 + (z5 : Int)) = fr + 100 + (z5 : Int) from IntWalk.i64_in _ (addz hfl.out hz5.out))
   refine takeYes 6 26 ?v58 rfl rfl (by kernel_rfl) (by kernel_rfl) (by kernel_rfl) (fun _ _ _ _ h => h) (by kernel_rfl) ?y58 ?r58
   case y58 => intro w; go_simp; first | done | with_reducible rfl
   simp only [Act.put, List.setIfInBounds_toArray, List.set_cons_zero, List.set_cons_succ]
   refine takeYes 7 27 ?v59 rfl rfl (by kernel_rfl) (by kernel_rfl) (by kernel_rfl) (fun _ _ _ _ h => h) (by kernel_rfl) ?y59 ?r59
   case y59 => intro w; go_simp; first | done | with_reducible rfl
   simp only [Act.put, List.setIfInBounds_toArray, List.set_cons_zero, List.set_cons_succ]
   refine takeYes 8 28 ?v60 rfl rfl (by kernel_rfl) (by kernel_rfl) (by kernel_rfl) (fun _ _ _ _ h => h) (by kernel_rfl) ?y60 ?r60
   case y60 => intro w; go_simp; first | done | with_reducible rfl
   simp only [Act.put, List.setIfInBounds_toArray, List.set_cons_zero, List.set_cons_succ]
   clear hz5i
   revert hz5; revert q_hb; revert we; revert z5
   exact kez0
  intro z5 wd hb hz5
  refine wpAny_ready (rs := [9]) (by kernel_rfl) (by simp) ?_
  refine AllReady.cons rfl (fun K hK => ?_) AllReady.nil
  skip
  have bx3 := hb.out.2.2.1.cell 3
  have f3 := hb.out.2.2.1.frozen 3
  go_simp
  refine hK _ _ ?_
  clear hK K
  try simp only [Act.put, List.setIfInBounds_toArray, List.set_cons_zero, List.set_cons_succ]
  refine wpAny_done (by kernel_rfl) ?_ _
  have hE := Lib.hid (show Drew (w.alloc (.cells #[.string ⟨#[]⟩, .int .i64 0, .int .i64 0, .int .i64 0, .slice none 0 0] 67)) g (wd.setCell ⟨bP, 3, none⟩ (.int .i64 (fr + 100 + (z5 : Int)))) ∧ Box (wd.setCell ⟨bP, 3, none⟩ (.int .i64 (fr + 100 + (z5 : Int)))) w.heap.size #[.string ⟨#[]⟩, .int .i64 0, .int .i64 0, .int .i64 0, .slice none 0 0] 67 ∧ Box (wd.setCell ⟨bP, 3, none⟩ (.int .i64 (fr + 100 + (z5 : Int)))) bP #[.string s1, .int .i64 (y2 : Int), .int .i64 fr, .int .i64 (fr + 100 + (z5 : Int)), .slice (some ⟨bN, 0, none⟩) 0 0] 67 ∧ OwnG layName 69 (wd.setCell ⟨bP, 3, none⟩ (.int .i64 (fr + 100 + (z5 : Int)))) w.heap.size (some ⟨bN, 0, none⟩) 0 0 [] from ⟨hb.out.1.setCell hwb hgb 3 _, Box.far hb.out.2.1 (Nat.ne_of_lt hRP) 3 _, hb.out.2.2.1.set 3 _, own_offB hb.out.2.2.2 hb.out.2.2.1 3 _⟩)
  have hz5 := hz5.out
  generalize wd.setCell ⟨bP, 3, none⟩ (.int .i64 (fr + 100 + (z5 : Int))) = wx at hE ⊢
  clear hb bx3 f3
  clear wd
  generalize htt : fr + 100 + (z5 : Int) = tt at hE ⊢
  have hfr := hfl.out
  have htb := Lib.hid (show 0 ≤ fr ∧ fr ≤ 2000 ∧ 0 ≤ tt ∧ tt ≤ 4000 from ⟨by omega, by omega, by omega, by omega⟩)
  clear htt hfr hfl hw1 hz5
  go_wp2_with fail
  refine (l01Next_any _ _ _ hE.out.1.1 (by decide)).mono ?_
  rintro e w2 ⟨q, rfl, hq0, hq1, hd⟩
  obtain ⟨nk, rfl, hnk⟩ := pick_nat 4 rfl (by decide) hq0 hq1
  have hF := Lib.hid (And.intro (hE.out.1.trans hd.drew) (And.intro (hE.out.2.1.drew hd.drew hwg) (And.intro (hE.out.2.2.1.drew hd.drew hbg) (hE.out.2.2.2.drawn hd.drew.2 hg))))
  clear hd hE hq0 hq1
  go_wp2
  go_loopw [4, 5, 6] (fun i _ _ wr => ∃ (k : Nat) (an : Option Addr) (cn : Nat) (xs : List NameV), i = .int .i64 k ∧ xs.length + k ≤ 3 ∧ shortN xs ∧ Drew (w.alloc (.cells #[.string ⟨#[]⟩, .int .i64 0, .int .i64 0, .int .i64 0, .slice none 0 0] 67)) g wr ∧ Box wr w.heap.size #[.string ⟨#[]⟩, .int .i64 0, .int .i64 0, .int .i64 0, .slice none 0 0] 67 ∧ Box wr bP #[.string s1, .int .i64 (y2 : Int), .int .i64 fr, .int .i64 tt, .slice an xs.length cn] 67 ∧ OwnG layName 69 wr w.heap.size an xs.length cn xs) (fun i _ _ _ => (intOf i).toNat)
  case atStart => exact ⟨nk, _, 0, [], rfl, by simp; omega, (fun _ h => by cases h), hF.out.1, hF.out.2.1, hF.out.2.2.1, hF.out.2.2.2⟩
  case round =>
    obtain ⟨k, an, cn, xs, rfl, hxk, hsh, t1, t2, t3, t4⟩ := hrel
    have HT := Lib.hid (And.intro t1 (And.intro t2 (And.intro t3 t4)))
    have HX := Lib.hid hsh
    clear hF t1 t2 t3 t4 hsh
    by_cases hk : 0 < k
    · go_wp2_with fail
      refine (l09Draw_any _ _ HT.out.1.1).mono ?_
      rintro e w6 ⟨⟨p0, p1, p2, p3, p4⟩, rfl, hx, hd⟩
      rw [valName]
      simp only at hx ⊢
      have xb := (Ext.refl w6).alloc (.cells #[.string p0, .string p1, .int .i64 p2, .int .i64 p3, .int .i64 p4] 69)
      have ow := HT.out.2.2.2.drawn hd.2 hg
      have hfar : ∀ q, an = some q → q.block ≠ w6.heap.size := fun q hq => by have := own_belowN ow.1 q hq; omega
      have hbx6 := HT.out.2.2.1.drew hd hbg
      have hbr6 := HT.out.2.1.drew hd hwg
      have hPX : bP ≠ w6.heap.size := Nat.ne_of_lt hbx6.lt
      have hRX : w.heap.size ≠ w6.heap.size := Nat.ne_of_lt hbr6.lt
      have hgx : g < w6.heap.size := hd.1.lt
      have hxg : w6.heap.size ≠ g := Nat.ne_of_gt hgx
      have hwx : (w.alloc (.cells #[.string ⟨#[]⟩, .int .i64 0, .int .i64 0, .int .i64 0, .slice none 0 0] 67)).heap.size ≤ w6.heap.size := by have := hbr6.lt; simp; omega
      have hG := Lib.hid (And.intro ((HT.out.1.trans hd).ext xb) (And.intro (hbr6.ext xb) (And.intro (hbx6.ext xb) (And.intro (ow.ext xb) (Box.new w6 #[.string p0, .string p1, .int .i64 p2, .int .i64 p3, .int .i64 p4] 69)))))
      clear HT xb ow hbx6 hbr6 hd
      go_wp2
      generalize w6.alloc (.cells #[.string p0, .string p1, .int .i64 p2, .int .i64 p3, .int .i64 p4] 69) = wn at hG ⊢
      generalize w6.heap.size = bX at hG hfar hPX hRX hgx hxg hwx ⊢
      clear w6
      apply withKey
      case h =>
       intro kew0
       apply withKey
       case h =>
        intro kew1
        apply withKey
        case h =>
         intro kew2
         apply withKey
         case h =>
          intro kew3
          apply withKey
          case h =>
           intro kew4
           apply withKey
           case h =>
            intro kew5
            apply withKey
            case h =>
             intro kew6
             apply withKey
             case h =>
              intro kew7
              apply withKey
              case h =>
               intro kew8
               apply withKey
               case h =>
                intro kew9
                apply withKey
                case h =>
                 intro kew10
                 apply withKey
                 case h =>
                  intro kew11
                  apply withKey
                  case h =>
                   intro kew12
                   apply withKey
                   case h =>
                    intro kew13
                    apply withKey
                    case h =>
                     intro kew14
                     apply withKey
                     case h =>
                      intro kew15
                      apply withKey
                      case h =>
                       intro kew16
                       apply withKey
                       case h =>
                        intro kew17
                        apply withKey
                        case h =>
                         intro kew18
                         apply withKey
                         case h =>
                          intro kew19
                          refine wp_region_any (by kernel_rfl) ?_
                          try (change wpAny _ _ _ _ _ _ _ (World.drew _))
                          have hb := Lib.hid (And.intro (hG.out.1.ext (Ext.refl wn).drew) (And.intro (hG.out.2.1.ext (Ext.refl wn).drew) (And.intro (hG.out.2.2.1.ext (Ext.refl wn).drew) (And.intro (hG.out.2.2.2.1.ext (Ext.refl wn).drew) (hG.out.2.2.2.2.ext (Ext.refl wn).drew)))))
                          generalize wn.drew = wd at hb ⊢
                          refine takeYes 0 37 ?v61 rfl rfl (by kernel_rfl) (by kernel_rfl) (by kernel_rfl) (fun _ _ _ _ h => h) (by kernel_rfl) ?y61 ?r61
                          case y61 => intro w; go_simp; first | done | with_reducible rfl
                          simp only [Act.put, List.setIfInBounds_toArray, List.set_cons_zero, List.set_cons_succ]
                          refine takeYes 1 38 ?v62 rfl rfl (by kernel_rfl) (by kernel_rfl) (by kernel_rfl) (fun _ _ _ _ h => h) (by kernel_rfl) ?y62 ?r62
                          case y62 => intro w; go_simp; first | done | with_reducible rfl
                          simp only [Act.put, List.setIfInBounds_toArray, List.set_cons_zero, List.set_cons_succ]
                          refine takeYes 3 40 ?v63 rfl rfl (by kernel_rfl) (by kernel_rfl) (by kernel_rfl) (fun _ _ _ _ h => h) (by kernel_rfl) ?y63 ?r63
                          case y63 => intro w; go_simp; first | done | with_reducible rfl
                          simp only [Act.put, List.setIfInBounds_toArray, List.set_cons_zero, List.set_cons_succ]
                          refine takeYes 6 43 ?v64 rfl rfl (by kernel_rfl) (by kernel_rfl) (by kernel_rfl) (fun _ _ _ _ h => h) (by kernel_rfl) ?y64 ?r64
                          case y64 => intro w; go_simp; first | done | with_reducible rfl
                          simp only [Act.put, List.setIfInBounds_toArray, List.set_cons_zero, List.set_cons_succ]
                          refine takeYes 7 44 ?v65 rfl rfl (by kernel_rfl) (by kernel_rfl) (by kernel_rfl) (fun _ _ _ _ h => h) (by kernel_rfl) ?y65 ?r65
                          case y65 => intro w; go_simp; first | done | with_reducible rfl
                          simp only [Act.put, List.setIfInBounds_toArray, List.set_cons_zero, List.set_cons_succ]
                          refine takeYes 9 46 ?v66 rfl rfl (by kernel_rfl) (by kernel_rfl) (by kernel_rfl) (fun _ _ _ _ h => h) (by kernel_rfl) ?y66 ?r66
                          case y66 => intro w; go_simp; first | done | with_reducible rfl
                          simp only [Act.put, List.setIfInBounds_toArray, List.set_cons_zero, List.set_cons_succ]
                          refine takeYes 10 47 ?v67 rfl rfl (by kernel_rfl) (by kernel_rfl) (by kernel_rfl) (fun _ _ _ _ h => h) (by kernel_rfl) ?y67 ?r67
                          case y67 => intro w; go_simp; first | done | with_reducible rfl
                          simp only [Act.put, List.setIfInBounds_toArray, List.set_cons_zero, List.set_cons_succ]
                          revert hb; revert wd
                          exact kew19
                         intro wd hb
                         refine wpAny_ready (rs := [2, 4, 8]) (by kernel_rfl) (by simp) ?_
                         refine AllReady.cons rfl (fun K hK => ?_) (AllReady.cons rfl (fun K hK => ?_) (AllReady.cons rfl (fun K hK => ?_) AllReady.nil))
                         · skip
                           have q2 : _ = some (Value.int .i64 fr) := hb.out.2.2.1.cell 2
                           go_simp
                           refine hK _ _ ?_
                           clear hK K
                           clear q2
                           try simp only [Act.put, List.setIfInBounds_toArray, List.set_cons_zero, List.set_cons_succ]
                           revert hb; revert wd
                           exact kew9
                         · skip
                           go_simp
                           refine (l01Next_any _ _ _ hb.out.1.1 (by decide)).mono ?_
                           rintro e we ⟨z4, rfl, hz0, hz1, hD0⟩
                           obtain ⟨z4, rfl, hyn⟩ := pick_nat 60 rfl (by decide) hz0 hz1
                           have hz4 := Lib.hid hyn
                           have hD := hD0.drew
                           clear hz0 hz1 hD0 hyn
                           go_wp2_with fail
                           try simp only [Act.put, List.setIfInBounds_toArray, List.set_cons_zero, List.set_cons_succ]
                           have q_hb := Lib.hid (And.intro (hb.out.1.trans hD) (And.intro (hb.out.2.1.drew hD hwg) (And.intro (hb.out.2.2.1.drew hD hbg) (And.intro (hb.out.2.2.2.1.drawn hD.2 hg) (hb.out.2.2.2.2.drew hD hxg)))))
                           clear hD hb
                           clear wd
                           revert hz4; revert q_hb; revert we; revert z4
                           exact kew17
                         · skip
                           have q3 : _ = some (Value.int .i64 tt) := hb.out.2.2.1.cell 3
                           go_simp
                           refine hK _ _ ?_
                           clear hK K
                           clear q3
                           try simp only [Act.put, List.setIfInBounds_toArray, List.set_cons_zero, List.set_cons_succ]
                           revert hb; revert wd
                           exact kew18
                        intro wd hb
                        refine wpAny_ready (rs := [2, 4]) (by kernel_rfl) (by simp) ?_
                        refine AllReady.cons rfl (fun K hK => ?_) (AllReady.cons rfl (fun K hK => ?_) AllReady.nil)
                        · skip
                          have q2 : _ = some (Value.int .i64 fr) := hb.out.2.2.1.cell 2
                          go_simp
                          refine hK _ _ ?_
                          clear hK K
                          clear q2
                          try simp only [Act.put, List.setIfInBounds_toArray, List.set_cons_zero, List.set_cons_succ]
                          revert hb; revert wd
                          exact kew8
                        · skip
                          go_simp
                          refine (l01Next_any _ _ _ hb.out.1.1 (by decide)).mono ?_
                          rintro e we ⟨z4, rfl, hz0, hz1, hD0⟩
                          obtain ⟨z4, rfl, hyn⟩ := pick_nat 60 rfl (by decide) hz0 hz1
                          have hz4 := Lib.hid hyn
                          have hD := hD0.drew
                          clear hz0 hz1 hD0 hyn
                          go_wp2_with fail
                          try simp only [Act.put, List.setIfInBounds_toArray, List.set_cons_zero, List.set_cons_succ]
                          have q_hb := Lib.hid (And.intro (hb.out.1.trans hD) (And.intro (hb.out.2.1.drew hD hwg) (And.intro (hb.out.2.2.1.drew hD hbg) (And.intro (hb.out.2.2.2.1.drawn hD.2 hg) (hb.out.2.2.2.2.drew hD hxg)))))
                          clear hD hb
                          clear wd
                          revert hz4; revert q_hb; revert we; revert z4
                          exact kew13
                       intro z4 wd hb hz4
                       refine wpAny_ready (rs := [2, 8, 11]) (by kernel_rfl) (by simp) ?_
                       refine AllReady.cons rfl (fun K hK => ?_) (AllReady.cons rfl (fun K hK => ?_) (AllReady.cons rfl (fun K hK => ?_) AllReady.nil))
                       · skip
                         have q2 : _ = some (Value.int .i64 fr) := hb.out.2.2.1.cell 2
                         go_simp
                         refine hK _ _ ?_
                         clear hK K
                         clear q2
                         try simp only [Act.put, List.setIfInBounds_toArray, List.set_cons_zero, List.set_cons_succ]
                         have h4i := (show IntKind.i64.wrap (fr + (z4 : Int)) = fr + (z4 : Int) from IntWalk.i64_in _ (addf htb.out hz4.out))
                         refine takeYes 5 42 ?v68 rfl rfl (by kernel_rfl) (by kernel_rfl) (by kernel_rfl) (fun _ _ _ _ h => h) (by kernel_rfl) ?y68 ?r68
                         case y68 => intro w; go_simp; first | done | with_reducible rfl
                         simp only [Act.put, List.setIfInBounds_toArray, List.set_cons_zero, List.set_cons_succ]
                         clear h4i
                         revert hz4; revert hb; revert wd; revert z4
                         exact kew7
                       · skip
                         have q3 : _ = some (Value.int .i64 tt) := hb.out.2.2.1.cell 3
                         go_simp
                         refine hK _ _ ?_
                         clear hK K
                         clear q3
                         try simp only [Act.put, List.setIfInBounds_toArray, List.set_cons_zero, List.set_cons_succ]
                         revert hz4; revert hb; revert wd; revert z4
                         exact kew13
                       · skip
                         go_simp
                         refine (l01Next_any _ _ _ hb.out.1.1 (by decide)).mono ?_
                         rintro e we ⟨z11, rfl, hz0, hz1, hD0⟩
                         obtain ⟨z11, rfl, hyn⟩ := pick_nat 30 rfl (by decide) hz0 hz1
                         have hz11 := Lib.hid hyn
                         have hD := hD0.drew
                         clear hz0 hz1 hD0 hyn
                         go_wp2_with fail
                         try simp only [Act.put, List.setIfInBounds_toArray, List.set_cons_zero, List.set_cons_succ]
                         have q_hb := Lib.hid (And.intro (hb.out.1.trans hD) (And.intro (hb.out.2.1.drew hD hwg) (And.intro (hb.out.2.2.1.drew hD hbg) (And.intro (hb.out.2.2.2.1.drawn hD.2 hg) (hb.out.2.2.2.2.drew hD hxg)))))
                         have q_hz4 := Lib.hid (hz4.out)
                         clear hD hb hz4
                         clear wd
                         revert hz11; revert q_hz4; revert q_hb; revert we; revert z11; revert z4
                         exact kew16
                      intro z4 z11 wd hb hz4 hz11
                      refine wpAny_ready (rs := [2, 8, 12]) (by kernel_rfl) (by simp) ?_
                      refine AllReady.cons rfl (fun K hK => ?_) (AllReady.cons rfl (fun K hK => ?_) (AllReady.cons rfl (fun K hK => ?_) AllReady.nil))
                      · skip
                        have q2 : _ = some (Value.int .i64 fr) := hb.out.2.2.1.cell 2
                        go_simp
                        refine hK _ _ ?_
                        clear hK K
                        clear q2
                        try simp only [Act.put, List.setIfInBounds_toArray, List.set_cons_zero, List.set_cons_succ]
                        have h4i := (show IntKind.i64.wrap (fr + (z4 : Int)) = fr + (z4 : Int) from IntWalk.i64_in _ (addf htb.out hz4.out))
                        refine takeYes 5 42 ?v69 rfl rfl (by kernel_rfl) (by kernel_rfl) (by kernel_rfl) (fun _ _ _ _ h => h) (by kernel_rfl) ?y69 ?r69
                        case y69 => intro w; go_simp; first | done | with_reducible rfl
                        simp only [Act.put, List.setIfInBounds_toArray, List.set_cons_zero, List.set_cons_succ]
                        clear h4i
                        revert hz11; revert hz4; revert hb; revert wd; revert z11; revert z4
                        exact kew6
                      · skip
                        have q3 : _ = some (Value.int .i64 tt) := hb.out.2.2.1.cell 3
                        go_simp
                        refine hK _ _ ?_
                        clear hK K
                        clear q3
                        try simp only [Act.put, List.setIfInBounds_toArray, List.set_cons_zero, List.set_cons_succ]
                        revert hz11; revert hz4; revert hb; revert wd; revert z11; revert z4
                        exact kew12
                      · skip
                        go_simp
                        refine hK _ _ ?_
                        clear hK K
                        have hD : Drew wd g (wd.alloc (.cells #[.int .i64 0, .int .i64 (z11 : Int)] 2)) := Drew.of_ext hb.out.1.1 ((Ext.refl _).alloc _)
                        have hI := Lib.hid (And.intro (Box.new wd #[.int .i64 0, .int .i64 (z11 : Int)] 2) (Nat.ne_of_gt hb.out.1.1.lt))
                        generalize wd.alloc (.cells #[.int .i64 0, .int .i64 (z11 : Int)] 2) = we at hD hI ⊢
                        generalize wd.heap.size = bI at hI ⊢
                        try simp only [Act.put, List.setIfInBounds_toArray, List.set_cons_zero, List.set_cons_succ]
                        have q_hb := Lib.hid (And.intro (hb.out.1.trans hD) (And.intro (hb.out.2.1.drew hD hwg) (And.intro (hb.out.2.2.1.drew hD hbg) (And.intro (hb.out.2.2.2.1.drawn hD.2 hg) (hb.out.2.2.2.2.drew hD hxg)))))
                        have q_hz4 := Lib.hid (hz4.out)
                        have q_hz11 := Lib.hid (hz11.out)
                        clear hD hb hz4 hz11
                        clear wd
                        revert hI; revert q_hz11; revert q_hz4; revert q_hb; revert we; revert bI; revert z11; revert z4
                        exact kew15
                     intro z4 z11 bI wd hb hz4 hz11 hI
                     refine wpAny_ready (rs := [2, 8, 13]) (by kernel_rfl) (by simp) ?_
                     refine AllReady.cons rfl (fun K hK => ?_) (AllReady.cons rfl (fun K hK => ?_) (AllReady.cons rfl (fun K hK => ?_) AllReady.nil))
                     · skip
                       have q2 : _ = some (Value.int .i64 fr) := hb.out.2.2.1.cell 2
                       go_simp
                       refine hK _ _ ?_
                       clear hK K
                       clear q2
                       try simp only [Act.put, List.setIfInBounds_toArray, List.set_cons_zero, List.set_cons_succ]
                       have h4i := (show IntKind.i64.wrap (fr + (z4 : Int)) = fr + (z4 : Int) from IntWalk.i64_in _ (addf htb.out hz4.out))
                       refine takeYes 5 42 ?v70 rfl rfl (by kernel_rfl) (by kernel_rfl) (by kernel_rfl) (fun _ _ _ _ h => h) (by kernel_rfl) ?y70 ?r70
                       case y70 => intro w; go_simp; first | done | with_reducible rfl
                       simp only [Act.put, List.setIfInBounds_toArray, List.set_cons_zero, List.set_cons_succ]
                       clear h4i
                       revert hI; revert hz11; revert hz4; revert hb; revert wd; revert bI; revert z11; revert z4
                       exact kew5
                     · skip
                       have q3 : _ = some (Value.int .i64 tt) := hb.out.2.2.1.cell 3
                       go_simp
                       refine hK _ _ ?_
                       clear hK K
                       clear q3
                       try simp only [Act.put, List.setIfInBounds_toArray, List.set_cons_zero, List.set_cons_succ]
                       revert hI; revert hz11; revert hz4; revert hb; revert wd; revert bI; revert z11; revert z4
                       exact kew11
                     · skip
                       go_simp
                       refine (l01Pick_any _ _ _ _ _ _ hb.out.1.1 (RdI.of_box hI.out.1 [0, (z11 : Int)] rfl (by simp)) (by simp) (by rintro ad e; cases e; exact hI.out.2)).mono ?_
                       rintro e we ⟨pk, rfl, hp, hD0⟩
                       have hpk := Lib.hid (pick_bd hp hz11.out)
                       have hD := hD0.drew
                       clear hp hD0
                       go_wp2_with fail
                       try simp only [Act.put, List.setIfInBounds_toArray, List.set_cons_zero, List.set_cons_succ]
                       have q_hb := Lib.hid (And.intro (hb.out.1.trans hD) (And.intro (hb.out.2.1.drew hD hwg) (And.intro (hb.out.2.2.1.drew hD hbg) (And.intro (hb.out.2.2.2.1.drawn hD.2 hg) (hb.out.2.2.2.2.drew hD hxg)))))
                       have q_hz4 := Lib.hid (hz4.out)
                       clear hD hb hz4 hz11 hI
                       clear wd
                       revert hpk; revert q_hz4; revert q_hb; revert we; revert pk; revert bI; revert z11; revert z4
                       exact kew14
                    intro z4 z11 bI pk wd hb hz4 hpk
                    refine wpAny_ready (rs := [2, 8]) (by kernel_rfl) (by simp) ?_
                    refine AllReady.cons rfl (fun K hK => ?_) (AllReady.cons rfl (fun K hK => ?_) AllReady.nil)
                    · skip
                      have q2 : _ = some (Value.int .i64 fr) := hb.out.2.2.1.cell 2
                      go_simp
                      refine hK _ _ ?_
                      clear hK K
                      clear q2
                      try simp only [Act.put, List.setIfInBounds_toArray, List.set_cons_zero, List.set_cons_succ]
                      have h4i := (show IntKind.i64.wrap (fr + (z4 : Int)) = fr + (z4 : Int) from IntWalk.i64_in _ (addf htb.out hz4.out))
                      refine takeYes 5 42 ?v71 rfl rfl (by kernel_rfl) (by kernel_rfl) (by kernel_rfl) (fun _ _ _ _ h => h) (by kernel_rfl) ?y71 ?r71
                      case y71 => intro w; go_simp; first | done | with_reducible rfl
                      simp only [Act.put, List.setIfInBounds_toArray, List.set_cons_zero, List.set_cons_succ]
                      clear h4i
                      revert hpk; revert hz4; revert hb; revert wd; revert pk; revert bI; revert z11; revert z4
                      exact kew4
                    · skip
                      have q3 : _ = some (Value.int .i64 tt) := hb.out.2.2.1.cell 3
                      go_simp
                      refine hK _ _ ?_
                      clear hK K
                      clear q3
                      try simp only [Act.put, List.setIfInBounds_toArray, List.set_cons_zero, List.set_cons_succ]
                      have hpi := (show IntKind.i64.wrap (tt - pk) = tt - pk from IntWalk.i64_in _ (subt htb.out hpk.out))
                      refine takeYes 14 51 ?v72 rfl rfl (by kernel_rfl) (by kernel_rfl) (by kernel_rfl) (fun _ _ _ _ h => h) (by kernel_rfl) ?y72 ?r72
                      case y72 => intro w; go_simp; first | done | with_reducible rfl
                      simp only [Act.put, List.setIfInBounds_toArray, List.set_cons_zero, List.set_cons_succ]
                      clear hpi
                      revert hpk; revert hz4; revert hb; revert wd; revert pk; revert bI; revert z11; revert z4
                      exact kew10
                   intro z4 wd hb hz4
                   refine wpAny_ready (rs := [2, 11]) (by kernel_rfl) (by simp) ?_
                   refine AllReady.cons rfl (fun K hK => ?_) (AllReady.cons rfl (fun K hK => ?_) AllReady.nil)
                   · skip
                     have q2 : _ = some (Value.int .i64 fr) := hb.out.2.2.1.cell 2
                     go_simp
                     refine hK _ _ ?_
                     clear hK K
                     clear q2
                     try simp only [Act.put, List.setIfInBounds_toArray, List.set_cons_zero, List.set_cons_succ]
                     have h4i := (show IntKind.i64.wrap (fr + (z4 : Int)) = fr + (z4 : Int) from IntWalk.i64_in _ (addf htb.out hz4.out))
                     refine takeYes 5 42 ?v73 rfl rfl (by kernel_rfl) (by kernel_rfl) (by kernel_rfl) (fun _ _ _ _ h => h) (by kernel_rfl) ?y73 ?r73
                     case y73 => intro w; go_simp; first | done | with_reducible rfl
                     simp only [Act.put, List.setIfInBounds_toArray, List.set_cons_zero, List.set_cons_succ]
                     clear h4i
                     revert hz4; revert hb; revert wd; revert z4
                     exact kew3
                   · skip
                     go_simp
                     refine (l01Next_any _ _ _ hb.out.1.1 (by decide)).mono ?_
                     rintro e we ⟨z11, rfl, hz0, hz1, hD0⟩
                     obtain ⟨z11, rfl, hyn⟩ := pick_nat 30 rfl (by decide) hz0 hz1
                     have hz11 := Lib.hid hyn
                     have hD := hD0.drew
                     clear hz0 hz1 hD0 hyn
                     go_wp2_with fail
                     try simp only [Act.put, List.setIfInBounds_toArray, List.set_cons_zero, List.set_cons_succ]
                     have q_hb := Lib.hid (And.intro (hb.out.1.trans hD) (And.intro (hb.out.2.1.drew hD hwg) (And.intro (hb.out.2.2.1.drew hD hbg) (And.intro (hb.out.2.2.2.1.drawn hD.2 hg) (hb.out.2.2.2.2.drew hD hxg)))))
                     have q_hz4 := Lib.hid (hz4.out)
                     clear hD hb hz4
                     clear wd
                     revert hz11; revert q_hz4; revert q_hb; revert we; revert z11; revert z4
                     exact kew12
                  intro z4 z11 wd hb hz4 hz11
                  refine wpAny_ready (rs := [2, 12]) (by kernel_rfl) (by simp) ?_
                  refine AllReady.cons rfl (fun K hK => ?_) (AllReady.cons rfl (fun K hK => ?_) AllReady.nil)
                  · skip
                    have q2 : _ = some (Value.int .i64 fr) := hb.out.2.2.1.cell 2
                    go_simp
                    refine hK _ _ ?_
                    clear hK K
                    clear q2
                    try simp only [Act.put, List.setIfInBounds_toArray, List.set_cons_zero, List.set_cons_succ]
                    have h4i := (show IntKind.i64.wrap (fr + (z4 : Int)) = fr + (z4 : Int) from IntWalk.i64_in _ (addf htb.out hz4.out))
                    refine takeYes 5 42 ?v74 rfl rfl (by kernel_rfl) (by kernel_rfl) (by kernel_rfl) (fun _ _ _ _ h => h) (by kernel_rfl) ?y74 ?r74
                    case y74 => intro w; go_simp; first | done | with_reducible rfl
                    simp only [Act.put, List.setIfInBounds_toArray, List.set_cons_zero, List.set_cons_succ]
                    clear h4i
                    revert hz11; revert hz4; revert hb; revert wd; revert z11; revert z4
                    exact kew2
                  · skip
                    go_simp
                    refine hK _ _ ?_
                    clear hK K
                    have hD : Drew wd g (wd.alloc (.cells #[.int .i64 0, .int .i64 (z11 : Int)] 2)) := Drew.of_ext hb.out.1.1 ((Ext.refl _).alloc _)
                    have hI := Lib.hid (And.intro (Box.new wd #[.int .i64 0, .int .i64 (z11 : Int)] 2) (Nat.ne_of_gt hb.out.1.1.lt))
                    generalize wd.alloc (.cells #[.int .i64 0, .int .i64 (z11 : Int)] 2) = we at hD hI ⊢
                    generalize wd.heap.size = bI at hI ⊢
                    try simp only [Act.put, List.setIfInBounds_toArray, List.set_cons_zero, List.set_cons_succ]
                    have q_hb := Lib.hid (And.intro (hb.out.1.trans hD) (And.intro (hb.out.2.1.drew hD hwg) (And.intro (hb.out.2.2.1.drew hD hbg) (And.intro (hb.out.2.2.2.1.drawn hD.2 hg) (hb.out.2.2.2.2.drew hD hxg)))))
                    have q_hz4 := Lib.hid (hz4.out)
                    have q_hz11 := Lib.hid (hz11.out)
                    clear hD hb hz4 hz11
                    clear wd
                    revert hI; revert q_hz11; revert q_hz4; revert q_hb; revert we; revert bI; revert z11; revert z4
                    exact kew11
                 intro z4 z11 bI wd hb hz4 hz11 hI
                 refine wpAny_ready (rs := [2, 13]) (by kernel_rfl) (by simp) ?_
                 refine AllReady.cons rfl (fun K hK => ?_) (AllReady.cons rfl (fun K hK => ?_) AllReady.nil)
                 · skip
                   have q2 : _ = some (Value.int .i64 fr) := hb.out.2.2.1.cell 2
                   go_simp
                   refine hK _ _ ?_
                   clear hK K
                   clear q2
                   try simp only [Act.put, List.setIfInBounds_toArray, List.set_cons_zero, List.set_cons_succ]
                   have h4i := (show IntKind.i64.wrap (fr + (z4 : Int)) = fr + (z4 : Int) from IntWalk.i64_in _ (addf htb.out hz4.out))
                   refine takeYes 5 42 ?v75 rfl rfl (by kernel_rfl) (by kernel_rfl) (by kernel_rfl) (fun _ _ _ _ h => h) (by kernel_rfl) ?y75 ?r75
                   case y75 => intro w; go_simp; first | done | with_reducible rfl
                   simp only [Act.put, List.setIfInBounds_toArray, List.set_cons_zero, List.set_cons_succ]
                   clear h4i
                   revert hI; revert hz11; revert hz4; revert hb; revert wd; revert bI; revert z11; revert z4
                   exact kew1
                 · skip
                   go_simp
                   refine (l01Pick_any _ _ _ _ _ _ hb.out.1.1 (RdI.of_box hI.out.1 [0, (z11 : Int)] rfl (by simp)) (by simp) (by rintro ad e; cases e; exact hI.out.2)).mono ?_
                   rintro e we ⟨pk, rfl, hp, hD0⟩
                   have hpk := Lib.hid (pick_bd hp hz11.out)
                   have hD := hD0.drew
                   clear hp hD0
                   go_wp2_with fail
                   try simp only [Act.put, List.setIfInBounds_toArray, List.set_cons_zero, List.set_cons_succ]
                   have q_hb := Lib.hid (And.intro (hb.out.1.trans hD) (And.intro (hb.out.2.1.drew hD hwg) (And.intro (hb.out.2.2.1.drew hD hbg) (And.intro (hb.out.2.2.2.1.drawn hD.2 hg) (hb.out.2.2.2.2.drew hD hxg)))))
                   have q_hz4 := Lib.hid (hz4.out)
                   clear hD hb hz4 hz11 hI
                   clear wd
                   have hpi := (show IntKind.i64.wrap (tt - pk) = tt - pk from IntWalk.i64_in _ (subt htb.out hpk.out))
                   refine takeYes 14 51 ?v76 rfl rfl (by kernel_rfl) (by kernel_rfl) (by kernel_rfl) (fun _ _ _ _ h => h) (by kernel_rfl) ?y76 ?r76
                   case y76 => intro w; go_simp; first | done | with_reducible rfl
                   simp only [Act.put, List.setIfInBounds_toArray, List.set_cons_zero, List.set_cons_succ]
                   clear hpi
                   revert hpk; revert q_hz4; revert q_hb; revert we; revert pk; revert bI; revert z11; revert z4
                   exact kew10
                intro z4 z11 bI pk wd hb hz4 hpk
                refine wpAny_ready (rs := [2]) (by kernel_rfl) (by simp) ?_
                refine AllReady.cons rfl (fun K hK => ?_) AllReady.nil
                skip
                have q2 : _ = some (Value.int .i64 fr) := hb.out.2.2.1.cell 2
                go_simp
                refine hK _ _ ?_
                clear hK K
                clear q2
                try simp only [Act.put, List.setIfInBounds_toArray, List.set_cons_zero, List.set_cons_succ]
                have h4i := (show IntKind.i64.wrap (fr + (z4 : Int)) = fr + (z4 : Int) from IntWalk.i64_in _ (addf htb.out hz4.out))
                refine takeYes 5 42 ?v77 rfl rfl (by kernel_rfl) (by kernel_rfl) (by kernel_rfl) (fun _ _ _ _ h => h) (by kernel_rfl) ?y77 ?r77
                case y77 => intro w; go_simp; first | done | with_reducible rfl
                simp only [Act.put, List.setIfInBounds_toArray, List.set_cons_zero, List.set_cons_succ]
                refine takeYes 15 52 ?v78 rfl rfl (by kernel_rfl) (by kernel_rfl) (by kernel_rfl) (fun _ _ _ _ h => h) (by kernel_rfl) ?y78 ?r78
                case y78 => intro w; go_simp; first | done | with_reducible rfl
                simp only [Act.put, List.setIfInBounds_toArray, List.set_cons_zero, List.set_cons_succ]
                refine takeYes 16 53 ?v79 rfl rfl (by kernel_rfl) (by kernel_rfl) (by kernel_rfl) (fun _ _ _ _ h => h) (by kernel_rfl) ?y79 ?r79
                case y79 => intro w; go_simp; first | done | with_reducible rfl
                simp only [Act.put, List.setIfInBounds_toArray, List.set_cons_zero, List.set_cons_succ]
                clear h4i
                revert hpk; revert hz4; revert hb; revert wd; revert pk; revert bI; revert z11; revert z4
                exact kew0
               intro wd hb
               refine wpAny_ready (rs := [4, 8]) (by kernel_rfl) (by simp) ?_
               refine AllReady.cons rfl (fun K hK => ?_) (AllReady.cons rfl (fun K hK => ?_) AllReady.nil)
               · skip
                 go_simp
                 refine (l01Next_any _ _ _ hb.out.1.1 (by decide)).mono ?_
                 rintro e we ⟨z4, rfl, hz0, hz1, hD0⟩
                 obtain ⟨z4, rfl, hyn⟩ := pick_nat 60 rfl (by decide) hz0 hz1
                 have hz4 := Lib.hid hyn
                 have hD := hD0.drew
                 clear hz0 hz1 hD0 hyn
                 go_wp2_with fail
                 try simp only [Act.put, List.setIfInBounds_toArray, List.set_cons_zero, List.set_cons_succ]
                 have q_hb := Lib.hid (And.intro (hb.out.1.trans hD) (And.intro (hb.out.2.1.drew hD hwg) (And.intro (hb.out.2.2.1.drew hD hbg) (And.intro (hb.out.2.2.2.1.drawn hD.2 hg) (hb.out.2.2.2.2.drew hD hxg)))))
                 clear hD hb
                 clear wd
                 have h4i := (show IntKind.i64.wrap (fr + (z4 : Int)) = fr + (z4 : Int) from IntWalk.i64_in _ (addf htb.out hz4.out))
                 refine takeYes 5 42 ?v80 rfl rfl (by kernel_rfl) (by kernel_rfl) (by kernel_rfl) (fun _ _ _ _ h => h) (by kernel_rfl) ?y80 ?r80
                 case y80 => intro w; go_simp; first | done | with_reducible rfl
                 simp only [Act.put, List.setIfInBounds_toArray, List.set_cons_zero, List.set_cons_succ]
                 clear h4i
                 revert hz4; revert q_hb; revert we; revert z4
                 exact kew7
               · skip
                 have q3 : _ = some (Value.int .i64 tt) := hb.out.2.2.1.cell 3
                 go_simp
                 refine hK _ _ ?_
                 clear hK K
                 clear q3
                 try simp only [Act.put, List.setIfInBounds_toArray, List.set_cons_zero, List.set_cons_succ]
                 revert hb; revert wd
                 exact kew8
              intro wd hb
              refine wpAny_ready (rs := [4]) (by kernel_rfl) (by simp) ?_
              refine AllReady.cons rfl (fun K hK => ?_) AllReady.nil
              skip
              go_simp
              refine (l01Next_any _ _ _ hb.out.1.1 (by decide)).mono ?_
              rintro e we ⟨z4, rfl, hz0, hz1, hD0⟩
              obtain ⟨z4, rfl, hyn⟩ := pick_nat 60 rfl (by decide) hz0 hz1
              have hz4 := Lib.hid hyn
              have hD := hD0.drew
              clear hz0 hz1 hD0 hyn
              go_wp2_with fail
              try simp only [Act.put, List.setIfInBounds_toArray, List.set_cons_zero, List.set_cons_succ]
              have q_hb := Lib.hid (And.intro (hb.out.1.trans hD) (And.intro (hb.out.2.1.drew hD hwg) (And.intro (hb.out.2.2.1.drew hD hbg) (And.intro (hb.out.2.2.2.1.drawn hD.2 hg) (hb.out.2.2.2.2.drew hD hxg)))))
              clear hD hb
              clear wd
              have h4i := (show IntKind.i64.wrap (fr + (z4 : Int)) = fr + (z4 : Int) from IntWalk.i64_in _ (addf htb.out hz4.out))
              refine takeYes 5 42 ?v81 rfl rfl (by kernel_rfl) (by kernel_rfl) (by kernel_rfl) (fun _ _ _ _ h => h) (by kernel_rfl) ?y81 ?r81
              case y81 => intro w; go_simp; first | done | with_reducible rfl
              simp only [Act.put, List.setIfInBounds_toArray, List.set_cons_zero, List.set_cons_succ]
              clear h4i
              revert hz4; revert q_hb; revert we; revert z4
              exact kew3
             intro z4 wd hb hz4
             refine wpAny_ready (rs := [8, 11]) (by kernel_rfl) (by simp) ?_
             refine AllReady.cons rfl (fun K hK => ?_) (AllReady.cons rfl (fun K hK => ?_) AllReady.nil)
             · skip
               have q3 : _ = some (Value.int .i64 tt) := hb.out.2.2.1.cell 3
               go_simp
               refine hK _ _ ?_
               clear hK K
               clear q3
               try simp only [Act.put, List.setIfInBounds_toArray, List.set_cons_zero, List.set_cons_succ]
               revert hz4; revert hb; revert wd; revert z4
               exact kew3
             · skip
               go_simp
               refine (l01Next_any _ _ _ hb.out.1.1 (by decide)).mono ?_
               rintro e we ⟨z11, rfl, hz0, hz1, hD0⟩
               obtain ⟨z11, rfl, hyn⟩ := pick_nat 30 rfl (by decide) hz0 hz1
               have hz11 := Lib.hid hyn
               have hD := hD0.drew
               clear hz0 hz1 hD0 hyn
               go_wp2_with fail
               try simp only [Act.put, List.setIfInBounds_toArray, List.set_cons_zero, List.set_cons_succ]
               have q_hb := Lib.hid (And.intro (hb.out.1.trans hD) (And.intro (hb.out.2.1.drew hD hwg) (And.intro (hb.out.2.2.1.drew hD hbg) (And.intro (hb.out.2.2.2.1.drawn hD.2 hg) (hb.out.2.2.2.2.drew hD hxg)))))
               have q_hz4 := Lib.hid (hz4.out)
               clear hD hb hz4
               clear wd
               revert hz11; revert q_hz4; revert q_hb; revert we; revert z11; revert z4
               exact kew6
            intro z4 z11 wd hb hz4 hz11
            refine wpAny_ready (rs := [8, 12]) (by kernel_rfl) (by simp) ?_
            refine AllReady.cons rfl (fun K hK => ?_) (AllReady.cons rfl (fun K hK => ?_) AllReady.nil)
            · skip
              have q3 : _ = some (Value.int .i64 tt) := hb.out.2.2.1.cell 3
              go_simp
              refine hK _ _ ?_
              clear hK K
              clear q3
              try simp only [Act.put, List.setIfInBounds_toArray, List.set_cons_zero, List.set_cons_succ]
              revert hz11; revert hz4; revert hb; revert wd; revert z11; revert z4
              exact kew2
            · skip
              go_simp
              refine hK _ _ ?_
              clear hK K
              have hD : Drew wd g (wd.alloc (.cells #[.int .i64 0, .int .i64 (z11 : Int)] 2)) := Drew.of_ext hb.out.1.1 ((Ext.refl _).alloc _)
              have hI := Lib.hid (And.intro (Box.new wd #[.int .i64 0, .int .i64 (z11 : Int)] 2) (Nat.ne_of_gt hb.out.1.1.lt))
              generalize wd.alloc (.cells #[.int .i64 0, .int .i64 (z11 : Int)] 2) = we at hD hI ⊢
              generalize wd.heap.size = bI at hI ⊢
              try simp only [Act.put, List.setIfInBounds_toArray, List.set_cons_zero, List.set_cons_succ]
              have q_hb := Lib.hid (And.intro (hb.out.1.trans hD) (And.intro (hb.out.2.1.drew hD hwg) (And.intro (hb.out.2.2.1.drew hD hbg) (And.intro (hb.out.2.2.2.1.drawn hD.2 hg) (hb.out.2.2.2.2.drew hD hxg)))))
              have q_hz4 := Lib.hid (hz4.out)
              have q_hz11 := Lib.hid (hz11.out)
              clear hD hb hz4 hz11
              clear wd
              revert hI; revert q_hz11; revert q_hz4; revert q_hb; revert we; revert bI; revert z11; revert z4
              exact kew5
           intro z4 z11 bI wd hb hz4 hz11 hI
           refine wpAny_ready (rs := [8, 13]) (by kernel_rfl) (by simp) ?_
           refine AllReady.cons rfl (fun K hK => ?_) (AllReady.cons rfl (fun K hK => ?_) AllReady.nil)
           · skip
             have q3 : _ = some (Value.int .i64 tt) := hb.out.2.2.1.cell 3
             go_simp
             refine hK _ _ ?_
             clear hK K
             clear q3
             try simp only [Act.put, List.setIfInBounds_toArray, List.set_cons_zero, List.set_cons_succ]
             revert hI; revert hz11; revert hz4; revert hb; revert wd; revert bI; revert z11; revert z4
             exact kew1
           · skip
             go_simp
             refine (l01Pick_any _ _ _ _ _ _ hb.out.1.1 (RdI.of_box hI.out.1 [0, (z11 : Int)] rfl (by simp)) (by simp) (by rintro ad e; cases e; exact hI.out.2)).mono ?_
             rintro e we ⟨pk, rfl, hp, hD0⟩
             have hpk := Lib.hid (pick_bd hp hz11.out)
             have hD := hD0.drew
             clear hp hD0
             go_wp2_with fail
             try simp only [Act.put, List.setIfInBounds_toArray, List.set_cons_zero, List.set_cons_succ]
             have q_hb := Lib.hid (And.intro (hb.out.1.trans hD) (And.intro (hb.out.2.1.drew hD hwg) (And.intro (hb.out.2.2.1.drew hD hbg) (And.intro (hb.out.2.2.2.1.drawn hD.2 hg) (hb.out.2.2.2.2.drew hD hxg)))))
             have q_hz4 := Lib.hid (hz4.out)
             clear hD hb hz4 hz11 hI
             clear wd
             revert hpk; revert q_hz4; revert q_hb; revert we; revert pk; revert bI; revert z11; revert z4
             exact kew4
          intro z4 z11 bI pk wd hb hz4 hpk
          refine wpAny_ready (rs := [8]) (by kernel_rfl) (by simp) ?_
          refine AllReady.cons rfl (fun K hK => ?_) AllReady.nil
          skip
          have q3 : _ = some (Value.int .i64 tt) := hb.out.2.2.1.cell 3
          go_simp
          refine hK _ _ ?_
          clear hK K
          clear q3
          try simp only [Act.put, List.setIfInBounds_toArray, List.set_cons_zero, List.set_cons_succ]
          have hpi := (show IntKind.i64.wrap (tt - pk) = tt - pk from IntWalk.i64_in _ (subt htb.out hpk.out))
          refine takeYes 14 51 ?v82 rfl rfl (by kernel_rfl) (by kernel_rfl) (by kernel_rfl) (fun _ _ _ _ h => h) (by kernel_rfl) ?y82 ?r82
          case y82 => intro w; go_simp; first | done | with_reducible rfl
          simp only [Act.put, List.setIfInBounds_toArray, List.set_cons_zero, List.set_cons_succ]
          refine takeYes 15 52 ?v83 rfl rfl (by kernel_rfl) (by kernel_rfl) (by kernel_rfl) (fun _ _ _ _ h => h) (by kernel_rfl) ?y83 ?r83
          case y83 => intro w; go_simp; first | done | with_reducible rfl
          simp only [Act.put, List.setIfInBounds_toArray, List.set_cons_zero, List.set_cons_succ]
          refine takeYes 16 53 ?v84 rfl rfl (by kernel_rfl) (by kernel_rfl) (by kernel_rfl) (fun _ _ _ _ h => h) (by kernel_rfl) ?y84 ?r84
          case y84 => intro w; go_simp; first | done | with_reducible rfl
          simp only [Act.put, List.setIfInBounds_toArray, List.set_cons_zero, List.set_cons_succ]
          clear hpi
          revert hpk; revert hz4; revert hb; revert wd; revert pk; revert bI; revert z11; revert z4
          exact kew0
         intro z4 wd hb hz4
         refine wpAny_ready (rs := [11]) (by kernel_rfl) (by simp) ?_
         refine AllReady.cons rfl (fun K hK => ?_) AllReady.nil
         skip
         go_simp
         refine (l01Next_any _ _ _ hb.out.1.1 (by decide)).mono ?_
         rintro e we ⟨z11, rfl, hz0, hz1, hD0⟩
         obtain ⟨z11, rfl, hyn⟩ := pick_nat 30 rfl (by decide) hz0 hz1
         have hz11 := Lib.hid hyn
         have hD := hD0.drew
         clear hz0 hz1 hD0 hyn
         go_wp2_with fail
         try simp only [Act.put, List.setIfInBounds_toArray, List.set_cons_zero, List.set_cons_succ]
         have q_hb := Lib.hid (And.intro (hb.out.1.trans hD) (And.intro (hb.out.2.1.drew hD hwg) (And.intro (hb.out.2.2.1.drew hD hbg) (And.intro (hb.out.2.2.2.1.drawn hD.2 hg) (hb.out.2.2.2.2.drew hD hxg)))))
         have q_hz4 := Lib.hid (hz4.out)
         clear hD hb hz4
         clear wd
         revert hz11; revert q_hz4; revert q_hb; revert we; revert z11; revert z4
         exact kew2
        intro z4 z11 wd hb hz4 hz11
        refine wpAny_ready (rs := [12]) (by kernel_rfl) (by simp) ?_
        refine AllReady.cons rfl (fun K hK => ?_) AllReady.nil
        skip
        go_simp
        refine hK _ _ ?_
        clear hK K
        have hD : Drew wd g (wd.alloc (.cells #[.int .i64 0, .int .i64 (z11 : Int)] 2)) := Drew.of_ext hb.out.1.1 ((Ext.refl _).alloc _)
        have hI := Lib.hid (And.intro (Box.new wd #[.int .i64 0, .int .i64 (z11 : Int)] 2) (Nat.ne_of_gt hb.out.1.1.lt))
        generalize wd.alloc (.cells #[.int .i64 0, .int .i64 (z11 : Int)] 2) = we at hD hI ⊢
        generalize wd.heap.size = bI at hI ⊢
        try simp only [Act.put, List.setIfInBounds_toArray, List.set_cons_zero, List.set_cons_succ]
        have q_hb := Lib.hid (And.intro (hb.out.1.trans hD) (And.intro (hb.out.2.1.drew hD hwg) (And.intro (hb.out.2.2.1.drew hD hbg) (And.intro (hb.out.2.2.2.1.drawn hD.2 hg) (hb.out.2.2.2.2.drew hD hxg)))))
        have q_hz4 := Lib.hid (hz4.out)
        have q_hz11 := Lib.hid (hz11.out)
        clear hD hb hz4 hz11
        clear wd
        revert hI; revert q_hz11; revert q_hz4; revert q_hb; revert we; revert bI; revert z11; revert z4
        exact kew1
       intro z4 z11 bI wd hb hz4 hz11 hI
       refine wpAny_ready (rs := [13]) (by kernel_rfl) (by simp) ?_
       refine AllReady.cons rfl (fun K hK => ?_) AllReady.nil
       skip
       go_simp
       refine (l01Pick_any _ _ _ _ _ _ hb.out.1.1 (RdI.of_box hI.out.1 [0, (z11 : Int)] rfl (by simp)) (by simp) (by rintro ad e; cases e; exact hI.out.2)).mono ?_
       rintro e we ⟨pk, rfl, hp, hD0⟩
       have hpk := Lib.hid (pick_bd hp hz11.out)
       have hD := hD0.drew
       clear hp hD0
       go_wp2_with fail
       try simp only [Act.put, List.setIfInBounds_toArray, List.set_cons_zero, List.set_cons_succ]
       have q_hb := Lib.hid (And.intro (hb.out.1.trans hD) (And.intro (hb.out.2.1.drew hD hwg) (And.intro (hb.out.2.2.1.drew hD hbg) (And.intro (hb.out.2.2.2.1.drawn hD.2 hg) (hb.out.2.2.2.2.drew hD hxg)))))
       have q_hz4 := Lib.hid (hz4.out)
       clear hD hb hz4 hz11 hI
       clear wd
       have hpi := (show IntKind.i64.wrap (tt - pk) = tt - pk from IntWalk.i64_in _ (subt htb.out hpk.out))
       refine takeYes 14 51 ?v85 rfl rfl (by kernel_rfl) (by kernel_rfl) (by kernel_rfl) (fun _ _ _ _ h => h) (by kernel_rfl) ?y85 ?r85
       case y85 => intro w; go_simp; first | done | with_reducible rfl
       simp only [Act.put, List.setIfInBounds_toArray, List.set_cons_zero, List.set_cons_succ]
       refine takeYes 15 52 ?v86 rfl rfl (by kernel_rfl) (by kernel_rfl) (by kernel_rfl) (fun _ _ _ _ h => h) (by kernel_rfl) ?y86 ?r86
       case y86 => intro w; go_simp; first | done | with_reducible rfl
       simp only [Act.put, List.setIfInBounds_toArray, List.set_cons_zero, List.set_cons_succ]
       refine takeYes 16 53 ?v87 rfl rfl (by kernel_rfl) (by kernel_rfl) (by kernel_rfl) (fun _ _ _ _ h => h) (by kernel_rfl) ?y87 ?r87
       case y87 => intro w; go_simp; first | done | with_reducible rfl
       simp only [Act.put, List.setIfInBounds_toArray, List.set_cons_zero, List.set_cons_succ]
       clear hpi
       revert hpk; revert q_hz4; revert q_hb; revert we; revert pk; revert bI; revert z11; revert z4
       exact kew0
      intro z4 z11 bI pk wd hb hz4 hpk
      refine wpAny_ready (rs := [17]) (by kernel_rfl) (by simp) ?_
      refine AllReady.cons rfl (fun K hK => ?_) AllReady.nil
      skip
      have bx3 := hb.out.2.2.2.2.cell 3
      have bx4 := hb.out.2.2.2.2.cell 4
      have f3 := hb.out.2.2.2.2.frozen 3
      have f4 := hb.out.2.2.2.2.frozen 4
      go_simp
      refine hK _ _ ?_
      clear hK K
      try simp only [Act.put, List.setIfInBounds_toArray, List.set_cons_zero, List.set_cons_succ]
      refine wpAny_done (by kernel_rfl) ?_ _
      have hE := Lib.hid (show Drew (w.alloc (.cells #[.string ⟨#[]⟩, .int .i64 0, .int .i64 0, .int .i64 0, .slice none 0 0] 67)) g ((wd.setCell ⟨bX, 3, none⟩ (.int .i64 (fr + (z4 : Int)))).setCell ⟨bX, 4, none⟩ (.int .i64 (tt - pk))) ∧ Box ((wd.setCell ⟨bX, 3, none⟩ (.int .i64 (fr + (z4 : Int)))).setCell ⟨bX, 4, none⟩ (.int .i64 (tt - pk))) w.heap.size #[.string ⟨#[]⟩, .int .i64 0, .int .i64 0, .int .i64 0, .slice none 0 0] 67 ∧ Box ((wd.setCell ⟨bX, 3, none⟩ (.int .i64 (fr + (z4 : Int)))).setCell ⟨bX, 4, none⟩ (.int .i64 (tt - pk))) bP #[.string s1, .int .i64 (y2 : Int), .int .i64 fr, .int .i64 tt, .slice an xs.length cn] 67 ∧ OwnG layName 69 ((wd.setCell ⟨bX, 3, none⟩ (.int .i64 (fr + (z4 : Int)))).setCell ⟨bX, 4, none⟩ (.int .i64 (tt - pk))) w.heap.size an xs.length cn xs ∧ Box ((wd.setCell ⟨bX, 3, none⟩ (.int .i64 (fr + (z4 : Int)))).setCell ⟨bX, 4, none⟩ (.int .i64 (tt - pk))) bX #[.string p0, .string p1, .int .i64 p2, .int .i64 (fr + (z4 : Int)), .int .i64 (tt - pk)] 69 from ⟨(hb.out.1.setCell hwx hgx 3 _).setCell hwx hgx 4 _, Box.far (Box.far hb.out.2.1 hRX 3 _) hRX 4 _, Box.far (Box.far hb.out.2.2.1 hPX 3 _) hPX 4 _, ⟨own_offN (own_offN hb.out.2.2.2.1.1 hfar) hfar, hb.out.2.2.2.1.2⟩, (hb.out.2.2.2.2.set 3 _).set 4 _⟩)
      generalize (wd.setCell ⟨bX, 3, none⟩ (.int .i64 (fr + (z4 : Int)))).setCell ⟨bX, 4, none⟩ (.int .i64 (tt - pk)) = wx at hE ⊢
      clear hb hz4 hpk bx3 bx4 f3 f4
      clear wd
      generalize (fr + (z4 : Int)) = n3 at hE ⊢
      generalize (tt - pk) = n4 at hE ⊢
      go_wp2_with fail
      refine (l01Next_any _ _ _ hE.out.1.1 (by decide)).mono ?_
      rintro e w7 ⟨y, rfl, hy0, hy1, hd⟩
      have hF := Lib.hid (And.intro (hE.out.1.trans hd.drew) (And.intro (hE.out.2.1.drew hd.drew hwg) (And.intro (hE.out.2.2.1.drew hd.drew hbg) (And.intro (hE.out.2.2.2.1.drawn hd.drew.2 hg) (hE.out.2.2.2.2.drew hd.drew hxg)))))
      clear hd hE
      have hg7 := hF.out.1.1.lt
      by_cases y0 : y = 0
      · subst y0
        go_wp2_with fail
        refine (l01Next_any _ _ _ (hF.out.1.1.ext ((Ext.refl _).alloc _)) (by decide)).mono ?_
        rintro e w7b ⟨z, rfl, hz0, hz1, hd⟩
        obtain ⟨j, rfl, hj⟩ := pick_nat 2 rfl (by decide) hz0 hz1
        have hji : (j : Int) < 2 := by omega
        obtain ⟨u, hc, hu⟩ := Lits.new (n := 2) hd.drew hg7 (by kernel_rfl) rfl j hj
        have hd2 := Drew.pre ((Ext.refl w7).alloc _) hd.drew
        have hG7 := Lib.hid (And.intro (hF.out.1.trans hd2) (And.intro (hF.out.2.1.drew hd2 hwg) (And.intro (hF.out.2.2.1.drew hd2 hbg) (And.intro (hF.out.2.2.2.1.drawn hd2.2 hg) (hF.out.2.2.2.2.drew hd2 hxg)))))
        have bx0 := hG7.out.2.2.2.2.cell 0
        have fx0 := hG7.out.2.2.2.2.frozen 0
        have hT := Lib.hid (show Drew (w.alloc (.cells #[.string ⟨#[]⟩, .int .i64 0, .int .i64 0, .int .i64 0, .slice none 0 0] 67)) g (w7b.setCell ⟨bX, 0, none⟩ (.string u)) ∧ Box (w7b.setCell ⟨bX, 0, none⟩ (.string u)) w.heap.size #[.string ⟨#[]⟩, .int .i64 0, .int .i64 0, .int .i64 0, .slice none 0 0] 67 ∧ Box (w7b.setCell ⟨bX, 0, none⟩ (.string u)) bP #[.string s1, .int .i64 (y2 : Int), .int .i64 fr, .int .i64 tt, .slice an xs.length cn] 67 ∧ OwnG layName 69 (w7b.setCell ⟨bX, 0, none⟩ (.string u)) w.heap.size an xs.length cn xs ∧ Box (w7b.setCell ⟨bX, 0, none⟩ (.string u)) bX #[.string u, .string p1, .int .i64 p2, .int .i64 n3, .int .i64 n4] 69 from ⟨hG7.out.1.setCell hwx hgx 0 _, Box.far hG7.out.2.1 hRX 0 _, Box.far hG7.out.2.2.1 hPX 0 _, ⟨own_offN hG7.out.2.2.2.1.1 hfar, hG7.out.2.2.2.1.2⟩, hG7.out.2.2.2.2.set 0 _⟩)
        clear hd hd2 hz0 hz1 hG7 hF
        have hcu := Lib.hid hu
        go_wp2_with fail
        generalize w7b.setCell ⟨bX, 0, none⟩ (.string u) = wt at hT ⊢
        clear bx0 fx0 hc
        have hfr := hT.out.2.2.2.1.rd
        have hbPl := hT.out.2.2.1.lt
        have hbXl := hT.out.2.2.2.2.lt
        have q4 : _ = some (Value.slice an xs.length cn) := hT.out.2.2.1.cell 4
        have c0 : _ = some (Value.string u) := hT.out.2.2.2.2.cell 0
        have c1 : _ = some (Value.string p1) := hT.out.2.2.2.2.cell 1
        have c2 : _ = some (Value.int .i64 p2) := hT.out.2.2.2.2.cell 2
        have c3 : _ = some (Value.int .i64 n3) := hT.out.2.2.2.2.cell 3
        have c4 : _ = some (Value.int .i64 n4) := hT.out.2.2.2.2.cell 4
        have hwW := hT.out.2.1.lt
        go_wp2
        go_region_law (first | (refine step_appG layName rfl _ _ 65 69 rfl Tryz.underlying65 (.agg #[.string ⟨#[]⟩, .string ⟨#[]⟩, .int .i64 0, .int .i64 0, .int .i64 0]) 56 Tryz.info_Name rfl (by decide) wt.heap.size _ xs.length _ xs rfl (hown.ext ((Ext.refl _).alloc _)) _ 1 1 [⟨u, p1, p2, n3, n4⟩] rfl (RdG.new1 layName _ _ _ rfl _) (by omega) (by have := hg.size; simp only [World.size_alloc]; omega) ?_; intro a4 c4 w4 hown4 hgrow4; have hg4 := (hg.alloc (.cells #[.string u, .string p1, .int .i64 p2, .int .i64 n3, .int .i64 n4] 69)).grown hgrow4 (fun k e => (hown.1.lt k e).1)) | (refine step_appG layName rfl _ _ 65 69 rfl Tryz.underlying65 (.agg #[.string ⟨#[]⟩, .string ⟨#[]⟩, .int .i64 0, .int .i64 0, .int .i64 0]) 56 Tryz.info_Name rfl (by decide) wt.heap.size _ xs.length _ xs rfl hown _ 1 1 [⟨u, p1, p2, n3, n4⟩] rfl hlit (by omega) hg.size ?_; intro a4 c4 w4 hown4 hgrow4; have hg4 := hg.grown hgrow4 (fun k e => (hown.1.lt k e).1)) | (have ho0 := (OwnG.lit layName 69 wt (Nat.le_refl wt.heap.size) [] #[] rfl (by simp)).ext (Ext.refl _).drew; refine step_appG layName rfl _ _ 65 69 rfl Tryz.underlying65 (.agg #[.string ⟨#[]⟩, .string ⟨#[]⟩, .int .i64 0, .int .i64 0, .int .i64 0]) 56 Tryz.info_Name rfl (by decide) wt.heap.size _ 0 _ [] rfl ho0 _ xs.length cn xs rfl (hfr.ext (((Ext.refl _).alloc (.cells #[] 69)).drew)) (by omega) (by first | omega | (simp only [World.size_alloc, World.size_drew]; omega)) ?_; intro a3 cc3 w3 hown hgrow; simp only [Nat.zero_add, List.nil_append] at hown; have hg := (((Ext.refl wt).alloc (.cells #[] 69)).drew).grown hgrow (fun k e => (ho0.1.lt k e).1); have q4' := (Below.cell hg (p := ⟨bP, 4, none⟩) hbPl).trans q4; have d0 := (Below.cell hg (p := ⟨bX, 0, none⟩) hbXl).trans c0; have d1 := (Below.cell hg (p := ⟨bX, 1, none⟩) hbXl).trans c1; have d2 := (Below.cell hg (p := ⟨bX, 2, none⟩) hbXl).trans c2; have d3 := (Below.cell hg (p := ⟨bX, 3, none⟩) hbXl).trans c3; have d4 := (Below.cell hg (p := ⟨bX, 4, none⟩) hbXl).trans c4) | (have ho0 := ((OwnG.lit layName 69 wt (Nat.le_refl wt.heap.size) [] #[] rfl (by simp)).ext ((Ext.refl _).alloc (.cells #[.string u, .string p1, .int .i64 p2, .int .i64 n3, .int .i64 n4] 69))).ext (Ext.refl _).drew; have hl0 := RdG.new1 layName (wt.alloc (.cells #[] 69)) ⟨u, p1, p2, n3, n4⟩ #[.string u, .string p1, .int .i64 p2, .int .i64 n3, .int .i64 n4] rfl 69; rw [World.size_alloc] at hl0; refine step_appG layName rfl _ _ 65 69 rfl Tryz.underlying65 (.agg #[.string ⟨#[]⟩, .string ⟨#[]⟩, .int .i64 0, .int .i64 0, .int .i64 0]) 56 Tryz.info_Name rfl (by decide) wt.heap.size _ 0 _ [] rfl ho0 _ xs.length cn xs rfl (hfr.ext ((((Ext.refl _).alloc (.cells #[] 69)).alloc (.cells #[.string u, .string p1, .int .i64 p2, .int .i64 n3, .int .i64 n4] 69)).drew)) (by omega) (by first | omega | (simp only [World.size_alloc, World.size_drew]; omega)) ?_; intro a3 cc3 w3 hown hgrow; simp only [Nat.zero_add, List.nil_append] at hown; have hg := ((((Ext.refl wt).alloc (.cells #[] 69)).alloc (.cells #[.string u, .string p1, .int .i64 p2, .int .i64 n3, .int .i64 n4] 69)).drew).grown hgrow (fun k e => (ho0.1.lt k e).1); have q4' := (Below.cell hg (p := ⟨bP, 4, none⟩) hbPl).trans q4; have d0 := (Below.cell hg (p := ⟨bX, 0, none⟩) hbXl).trans c0; have d1 := (Below.cell hg (p := ⟨bX, 1, none⟩) hbXl).trans c1; have d2 := (Below.cell hg (p := ⟨bX, 2, none⟩) hbXl).trans c2; have d3 := (Below.cell hg (p := ⟨bX, 3, none⟩) hbXl).trans c3; have d4 := (Below.cell hg (p := ⟨bX, 4, none⟩) hbXl).trans c4; have hlit := RdG.grown (hl0.ext (Ext.refl _).drew) hgrow (by simp [Value.ownBlock])) | (have ho1 := OwnG.lit layName 69 (wt.alloc (.cells #[.string u, .string p1, .int .i64 p2, .int .i64 n3, .int .i64 n4] 69)) (show wt.heap.size ≤ _ by rw [World.size_alloc]; omega) [] #[] rfl (by simp); rw [World.size_alloc] at ho1; have ho0 := ho1.ext (Ext.refl _).drew; have hl0 := RdG.new1 layName wt ⟨u, p1, p2, n3, n4⟩ #[.string u, .string p1, .int .i64 p2, .int .i64 n3, .int .i64 n4] rfl 69; refine step_appG layName rfl _ _ 65 69 rfl Tryz.underlying65 (.agg #[.string ⟨#[]⟩, .string ⟨#[]⟩, .int .i64 0, .int .i64 0, .int .i64 0]) 56 Tryz.info_Name rfl (by decide) wt.heap.size _ 0 _ [] rfl ho0 _ xs.length cn xs rfl (hfr.ext ((((Ext.refl _).alloc (.cells #[.string u, .string p1, .int .i64 p2, .int .i64 n3, .int .i64 n4] 69)).alloc (.cells #[] 69)).drew)) (by omega) (by first | omega | (simp only [World.size_alloc, World.size_drew]; omega)) ?_; intro a3 cc3 w3 hown hgrow; simp only [Nat.zero_add, List.nil_append] at hown; have hg := ((((Ext.refl wt).alloc (.cells #[.string u, .string p1, .int .i64 p2, .int .i64 n3, .int .i64 n4] 69)).alloc (.cells #[] 69)).drew).grown hgrow (fun k e => (ho0.1.lt k e).1); have q4' := (Below.cell hg (p := ⟨bP, 4, none⟩) hbPl).trans q4; have d0 := (Below.cell hg (p := ⟨bX, 0, none⟩) hbXl).trans c0; have d1 := (Below.cell hg (p := ⟨bX, 1, none⟩) hbXl).trans c1; have d2 := (Below.cell hg (p := ⟨bX, 2, none⟩) hbXl).trans c2; have d3 := (Below.cell hg (p := ⟨bX, 3, none⟩) hbXl).trans c3; have d4 := (Below.cell hg (p := ⟨bX, 4, none⟩) hbXl).trans c4; have hlit := RdG.grown ((hl0.ext ((Ext.refl _).alloc (.cells #[] 69))).ext (Ext.refl _).drew) hgrow (by simp [Value.ownBlock])))
        all_goals
          rename World => w8
          have HO := Lib.hid (And.intro hown4 hg4)
          clear hown4 hg4
          have hT8 := Lib.hid (And.intro (hT.out.1.ext HO.out.2) (And.intro (hT.out.2.1.ext HO.out.2) (And.intro (hT.out.2.2.1.ext HO.out.2) (And.intro (hT.out.2.2.2.1.ext HO.out.2) (hT.out.2.2.2.2.ext HO.out.2)))))
          have hsh2 := Lib.hid (shortN.app HX.out (x := ⟨u, p1, p2, n3, n4⟩) ⟨by simp only; omega, by simp only; omega⟩)
          go_wp2_with fail
          refine (specAreNames_any _ _ _ _ _ ⟨HO.out.1.rd, shortN_ok hsh2.out⟩).mono ?_
          rintro e w9 ⟨rfl, e9⟩
          have hT9 := Lib.hid (And.intro (hT8.out.1.ext e9) (And.intro (hT8.out.2.1.ext e9) (And.intro (hT8.out.2.2.1.ext e9) (And.intro (hT8.out.2.2.2.1.ext e9) (hT8.out.2.2.2.2.ext e9)))))
          have HO9 := Lib.hid ((HO.out.1.ext e9).mono (Nat.le_of_lt hwW))
          clear hT8 e9
          cases hN : namesB (xs ++ [(⟨u, p1, p2, n3, n4⟩ : NameV)])
          · go_wp2
            go_roundw
            case rel => exact ⟨k - 1, an, cn, xs, by rw [show ((k : Int) - 1) = ((k - 1 : Nat) : Int) from by omega], by omega, HX.out, hT9.out.1, hT9.out.2.1, hT9.out.2.2.1, hT9.out.2.2.2.1⟩
            case measure => simp [intOf]; omega
          · have u3 : _ = some (Value.int .i64 n3) := hT9.out.2.2.2.2.cell 3
            have u4 : _ = some (Value.int .i64 n4) := hT9.out.2.2.2.2.cell 4
            by_cases hle : n3 ≤ n4
            · have v4 : _ = some (Value.slice an xs.length cn) := hT9.out.2.2.1.cell 4
              have vf := hT9.out.2.2.1.frozen 4
              have hV := Lib.hid (And.intro (hT9.out.1.setCell hwb hgb 4 (.slice a4 (xs.length + 1) c4)) (And.intro (Box.far hT9.out.2.1 (Nat.ne_of_lt hRP) 4 (.slice a4 (xs.length + 1) c4)) (And.intro (hT9.out.2.2.1.set 4 (.slice a4 (xs.length + 1) c4)) (own_offB HO9.out hT9.out.2.2.1 4 (.slice a4 (xs.length + 1) c4)))))
              go_wp2
              go_roundw
              case rel => exact ⟨k - 1, a4, c4, xs ++ [⟨u, p1, p2, n3, n4⟩], by rw [show ((k : Int) - 1) = ((k - 1 : Nat) : Int) from by omega], by simp; omega, hsh2.out, hV.out.1, hV.out.2.1, by rw [List.length_append]; exact hV.out.2.2.1, by rw [List.length_append]; exact hV.out.2.2.2⟩
              case measure => simp [intOf]; omega
            · go_wp2
              go_roundw
              case rel => exact ⟨k - 1, an, cn, xs, by rw [show ((k : Int) - 1) = ((k - 1 : Nat) : Int) from by omega], by omega, HX.out, hT9.out.1, hT9.out.2.1, hT9.out.2.2.1, hT9.out.2.2.2.1⟩
              case measure => simp [intOf]; omega
      · have hT := hF
        clear hF
        have hfr := hT.out.2.2.2.1.rd
        have hbPl := hT.out.2.2.1.lt
        have hbXl := hT.out.2.2.2.2.lt
        have q4 : _ = some (Value.slice an xs.length cn) := hT.out.2.2.1.cell 4
        have c0 : _ = some (Value.string p0) := hT.out.2.2.2.2.cell 0
        have c1 : _ = some (Value.string p1) := hT.out.2.2.2.2.cell 1
        have c2 : _ = some (Value.int .i64 p2) := hT.out.2.2.2.2.cell 2
        have c3 : _ = some (Value.int .i64 n3) := hT.out.2.2.2.2.cell 3
        have c4 : _ = some (Value.int .i64 n4) := hT.out.2.2.2.2.cell 4
        have hwW := hT.out.2.1.lt
        go_wp2
        go_region_law (first | (refine step_appG layName rfl _ _ 65 69 rfl Tryz.underlying65 (.agg #[.string ⟨#[]⟩, .string ⟨#[]⟩, .int .i64 0, .int .i64 0, .int .i64 0]) 56 Tryz.info_Name rfl (by decide) w7.heap.size _ xs.length _ xs rfl (hown.ext ((Ext.refl _).alloc _)) _ 1 1 [⟨p0, p1, p2, n3, n4⟩] rfl (RdG.new1 layName _ _ _ rfl _) (by omega) (by have := hg.size; simp only [World.size_alloc]; omega) ?_; intro a4 c4 w4 hown4 hgrow4; have hg4 := (hg.alloc (.cells #[.string p0, .string p1, .int .i64 p2, .int .i64 n3, .int .i64 n4] 69)).grown hgrow4 (fun k e => (hown.1.lt k e).1)) | (refine step_appG layName rfl _ _ 65 69 rfl Tryz.underlying65 (.agg #[.string ⟨#[]⟩, .string ⟨#[]⟩, .int .i64 0, .int .i64 0, .int .i64 0]) 56 Tryz.info_Name rfl (by decide) w7.heap.size _ xs.length _ xs rfl hown _ 1 1 [⟨p0, p1, p2, n3, n4⟩] rfl hlit (by omega) hg.size ?_; intro a4 c4 w4 hown4 hgrow4; have hg4 := hg.grown hgrow4 (fun k e => (hown.1.lt k e).1)) | (have ho0 := (OwnG.lit layName 69 w7 (Nat.le_refl w7.heap.size) [] #[] rfl (by simp)).ext (Ext.refl _).drew; refine step_appG layName rfl _ _ 65 69 rfl Tryz.underlying65 (.agg #[.string ⟨#[]⟩, .string ⟨#[]⟩, .int .i64 0, .int .i64 0, .int .i64 0]) 56 Tryz.info_Name rfl (by decide) w7.heap.size _ 0 _ [] rfl ho0 _ xs.length cn xs rfl (hfr.ext (((Ext.refl _).alloc (.cells #[] 69)).drew)) (by omega) (by first | omega | (simp only [World.size_alloc, World.size_drew]; omega)) ?_; intro a3 cc3 w3 hown hgrow; simp only [Nat.zero_add, List.nil_append] at hown; have hg := (((Ext.refl w7).alloc (.cells #[] 69)).drew).grown hgrow (fun k e => (ho0.1.lt k e).1); have q4' := (Below.cell hg (p := ⟨bP, 4, none⟩) hbPl).trans q4; have d0 := (Below.cell hg (p := ⟨bX, 0, none⟩) hbXl).trans c0; have d1 := (Below.cell hg (p := ⟨bX, 1, none⟩) hbXl).trans c1; have d2 := (Below.cell hg (p := ⟨bX, 2, none⟩) hbXl).trans c2; have d3 := (Below.cell hg (p := ⟨bX, 3, none⟩) hbXl).trans c3; have d4 := (Below.cell hg (p := ⟨bX, 4, none⟩) hbXl).trans c4) | (have ho0 := ((OwnG.lit layName 69 w7 (Nat.le_refl w7.heap.size) [] #[] rfl (by simp)).ext ((Ext.refl _).alloc (.cells #[.string p0, .string p1, .int .i64 p2, .int .i64 n3, .int .i64 n4] 69))).ext (Ext.refl _).drew; have hl0 := RdG.new1 layName (w7.alloc (.cells #[] 69)) ⟨p0, p1, p2, n3, n4⟩ #[.string p0, .string p1, .int .i64 p2, .int .i64 n3, .int .i64 n4] rfl 69; rw [World.size_alloc] at hl0; refine step_appG layName rfl _ _ 65 69 rfl Tryz.underlying65 (.agg #[.string ⟨#[]⟩, .string ⟨#[]⟩, .int .i64 0, .int .i64 0, .int .i64 0]) 56 Tryz.info_Name rfl (by decide) w7.heap.size _ 0 _ [] rfl ho0 _ xs.length cn xs rfl (hfr.ext ((((Ext.refl _).alloc (.cells #[] 69)).alloc (.cells #[.string p0, .string p1, .int .i64 p2, .int .i64 n3, .int .i64 n4] 69)).drew)) (by omega) (by first | omega | (simp only [World.size_alloc, World.size_drew]; omega)) ?_; intro a3 cc3 w3 hown hgrow; simp only [Nat.zero_add, List.nil_append] at hown; have hg := ((((Ext.refl w7).alloc (.cells #[] 69)).alloc (.cells #[.string p0, .string p1, .int .i64 p2, .int .i64 n3, .int .i64 n4] 69)).drew).grown hgrow (fun k e => (ho0.1.lt k e).1); have q4' := (Below.cell hg (p := ⟨bP, 4, none⟩) hbPl).trans q4; have d0 := (Below.cell hg (p := ⟨bX, 0, none⟩) hbXl).trans c0; have d1 := (Below.cell hg (p := ⟨bX, 1, none⟩) hbXl).trans c1; have d2 := (Below.cell hg (p := ⟨bX, 2, none⟩) hbXl).trans c2; have d3 := (Below.cell hg (p := ⟨bX, 3, none⟩) hbXl).trans c3; have d4 := (Below.cell hg (p := ⟨bX, 4, none⟩) hbXl).trans c4; have hlit := RdG.grown (hl0.ext (Ext.refl _).drew) hgrow (by simp [Value.ownBlock])) | (have ho1 := OwnG.lit layName 69 (w7.alloc (.cells #[.string p0, .string p1, .int .i64 p2, .int .i64 n3, .int .i64 n4] 69)) (show w7.heap.size ≤ _ by rw [World.size_alloc]; omega) [] #[] rfl (by simp); rw [World.size_alloc] at ho1; have ho0 := ho1.ext (Ext.refl _).drew; have hl0 := RdG.new1 layName w7 ⟨p0, p1, p2, n3, n4⟩ #[.string p0, .string p1, .int .i64 p2, .int .i64 n3, .int .i64 n4] rfl 69; refine step_appG layName rfl _ _ 65 69 rfl Tryz.underlying65 (.agg #[.string ⟨#[]⟩, .string ⟨#[]⟩, .int .i64 0, .int .i64 0, .int .i64 0]) 56 Tryz.info_Name rfl (by decide) w7.heap.size _ 0 _ [] rfl ho0 _ xs.length cn xs rfl (hfr.ext ((((Ext.refl _).alloc (.cells #[.string p0, .string p1, .int .i64 p2, .int .i64 n3, .int .i64 n4] 69)).alloc (.cells #[] 69)).drew)) (by omega) (by first | omega | (simp only [World.size_alloc, World.size_drew]; omega)) ?_; intro a3 cc3 w3 hown hgrow; simp only [Nat.zero_add, List.nil_append] at hown; have hg := ((((Ext.refl w7).alloc (.cells #[.string p0, .string p1, .int .i64 p2, .int .i64 n3, .int .i64 n4] 69)).alloc (.cells #[] 69)).drew).grown hgrow (fun k e => (ho0.1.lt k e).1); have q4' := (Below.cell hg (p := ⟨bP, 4, none⟩) hbPl).trans q4; have d0 := (Below.cell hg (p := ⟨bX, 0, none⟩) hbXl).trans c0; have d1 := (Below.cell hg (p := ⟨bX, 1, none⟩) hbXl).trans c1; have d2 := (Below.cell hg (p := ⟨bX, 2, none⟩) hbXl).trans c2; have d3 := (Below.cell hg (p := ⟨bX, 3, none⟩) hbXl).trans c3; have d4 := (Below.cell hg (p := ⟨bX, 4, none⟩) hbXl).trans c4; have hlit := RdG.grown ((hl0.ext ((Ext.refl _).alloc (.cells #[] 69))).ext (Ext.refl _).drew) hgrow (by simp [Value.ownBlock])))
        all_goals
          rename World => w8
          have HO := Lib.hid (And.intro hown4 hg4)
          clear hown4 hg4
          have hT8 := Lib.hid (And.intro (hT.out.1.ext HO.out.2) (And.intro (hT.out.2.1.ext HO.out.2) (And.intro (hT.out.2.2.1.ext HO.out.2) (And.intro (hT.out.2.2.2.1.ext HO.out.2) (hT.out.2.2.2.2.ext HO.out.2)))))
          have hsh2 := Lib.hid (shortN.app HX.out (x := ⟨p0, p1, p2, n3, n4⟩) ⟨by simp only; omega, by simp only; omega⟩)
          go_wp2_with fail
          refine (specAreNames_any _ _ _ _ _ ⟨HO.out.1.rd, shortN_ok hsh2.out⟩).mono ?_
          rintro e w9 ⟨rfl, e9⟩
          have hT9 := Lib.hid (And.intro (hT8.out.1.ext e9) (And.intro (hT8.out.2.1.ext e9) (And.intro (hT8.out.2.2.1.ext e9) (And.intro (hT8.out.2.2.2.1.ext e9) (hT8.out.2.2.2.2.ext e9)))))
          have HO9 := Lib.hid ((HO.out.1.ext e9).mono (Nat.le_of_lt hwW))
          clear hT8 e9
          cases hN : namesB (xs ++ [(⟨p0, p1, p2, n3, n4⟩ : NameV)])
          · go_wp2
            go_roundw
            case rel => exact ⟨k - 1, an, cn, xs, by rw [show ((k : Int) - 1) = ((k - 1 : Nat) : Int) from by omega], by omega, HX.out, hT9.out.1, hT9.out.2.1, hT9.out.2.2.1, hT9.out.2.2.2.1⟩
            case measure => simp [intOf]; omega
          · have u3 : _ = some (Value.int .i64 n3) := hT9.out.2.2.2.2.cell 3
            have u4 : _ = some (Value.int .i64 n4) := hT9.out.2.2.2.2.cell 4
            by_cases hle : n3 ≤ n4
            · have v4 : _ = some (Value.slice an xs.length cn) := hT9.out.2.2.1.cell 4
              have vf := hT9.out.2.2.1.frozen 4
              have hV := Lib.hid (And.intro (hT9.out.1.setCell hwb hgb 4 (.slice a4 (xs.length + 1) c4)) (And.intro (Box.far hT9.out.2.1 (Nat.ne_of_lt hRP) 4 (.slice a4 (xs.length + 1) c4)) (And.intro (hT9.out.2.2.1.set 4 (.slice a4 (xs.length + 1) c4)) (own_offB HO9.out hT9.out.2.2.1 4 (.slice a4 (xs.length + 1) c4)))))
              go_wp2
              go_roundw
              case rel => exact ⟨k - 1, a4, c4, xs ++ [⟨p0, p1, p2, n3, n4⟩], by rw [show ((k : Int) - 1) = ((k - 1 : Nat) : Int) from by omega], by simp; omega, hsh2.out, hV.out.1, hV.out.2.1, by rw [List.length_append]; exact hV.out.2.2.1, by rw [List.length_append]; exact hV.out.2.2.2⟩
              case measure => simp [intOf]; omega
            · go_wp2
              go_roundw
              case rel => exact ⟨k - 1, an, cn, xs, by rw [show ((k : Int) - 1) = ((k - 1 : Nat) : Int) from by omega], by omega, HX.out, hT9.out.1, hT9.out.2.1, hT9.out.2.2.1, hT9.out.2.2.2.1⟩
              case measure => simp [intOf]; omega
    · have c0 : _ = some (Value.string s1) := HT.out.2.2.1.cell 0
      have c1 : _ = some (Value.int .i64 (y2 : Int)) := HT.out.2.2.1.cell 1
      have c2 : _ = some (Value.int .i64 fr) := HT.out.2.2.1.cell 2
      have c3 : _ = some (Value.int .i64 tt) := HT.out.2.2.1.cell 3
      have c4 : _ = some (Value.slice an xs.length cn) := HT.out.2.2.1.cell 4
      have a0 : _ = some (Value.string ⟨#[]⟩) := HT.out.2.1.cell 0
      have a1 : _ = some (Value.int .i64 0) := HT.out.2.1.cell 1
      have a2 : _ = some (Value.int .i64 0) := HT.out.2.1.cell 2
      have a3 : _ = some (Value.int .i64 0) := HT.out.2.1.cell 3
      have a4 : _ = some (Value.slice none 0 0) := HT.out.2.1.cell 4
      have f0 := HT.out.2.1.frozen 0
      have f1 := HT.out.2.1.frozen 1
      have f2 := HT.out.2.1.frozen 2
      have f3 := HT.out.2.1.frozen 3
      have f4 := HT.out.2.1.frozen 4
      have hlen3 : xs.length ≤ 13 := by omega
      go_wp2
      exact bodyPost_ret (v := .agg #[.string s1, .int .i64 (y2 : Int), .int .i64 fr, .int .i64 tt, .slice an xs.length cn]) (by simp [results, Tryz.results115, go_sem, a0, a1, a2, a3, a4]) rfl ⟨⟨s1, y2, fr, tt, xs⟩, ⟨an, xs.length, cn⟩, rfl, ⟨own_off5 HT.out.2.2.2 HT.out.2.1 _ _ _ _ _, ⟨by simp only; omega, HX.out, hlen3⟩⟩, (((((Drew.pre ((Ext.refl _).alloc _) HT.out.1).setCell (Nat.le_refl _) hg 0 _).setCell (Nat.le_refl _) hg 1 _).setCell (Nat.le_refl _) hg 2 _).setCell (Nat.le_refl _) hg 3 _).setCell (Nat.le_refl _) hg 4 _⟩

end Go.Proofs.YtjelmidkkpchkaaGreatDoor

/-
  The edit distance of the reference.
-/
import Derived.Test.YtfglmoedicijkaaDoorU
namespace Go.Proofs.YtfglmoedicijkaaDoor
open Go.RowKit

set_option maxRecDepth 100000 in
set_option maxHeartbeats 2000000 in
theorem l01Distance_any (s t : ByteArray) (w : World) (hs : s.size ≤ 1073741824) (ht : t.size ≤ 1073741824) :
    Calls Tryd.prog 55 #[.string s, .string t] w fun e w' => e = .returned (.int .i64 (ed s t s.size t.size)) ∧ Ext w w' := by
  go_enter Tryd.func55, Tryd.ntmps55
  go_wp2
  go_loopw [5, 6] (fun v i wr => ∃ (k : Nat) (a : Option Addr) (c : Nat), k ≤ t.size + 1 ∧ i = .int .i64 k ∧ v = .slice a k c ∧ OwnI wr w.heap.size a k c (edRow s t 0 k) ∧ Ext w wr) (fun _ i _ => t.size + 1 - (intOf i).toNat)
  case atStart => exact ⟨0, _, _, Nat.zero_le _, rfl, rfl, ⟨OwnI.lit0 w (Nat.le_refl _), by decide⟩, (Ext.refl _).alloc _⟩
  case round =>
    obtain ⟨k, a, c, hk, rfl, rfl, ho, hb⟩ := hrel
    by_cases hlt : k < t.size + 1
    · have hki : (k : Int) ≤ t.size := by omega
      have hrow : edRow s t 0 (k + 1) = edRow s t 0 k ++ [(k : Int)] := by rw [edRow_succ, ed_zero]
      have HR := Lib.hid hrow
      clear hrow
      go_wp2_with (first | (at_builtin; refine wpList_appI rfl _ _ rfl w.heap.size _ k _ rfl (ho.alloc _) _ 1 _ [(k : Int)] rfl (RdI.new1 _ _ _) (by omega) (hb.le_alloc _) ?_; intro a2 c2 w2 hown hgrow; have hb2 := hb.app ho (Nat.le_refl _) hgrow; have HO := Lib.hid hown; clear hown))
      go_roundw
      case rel => exact ⟨k + 1, a2, c2, by omega, by go_num, rfl, by rw [HR.out]; exact HO.out, hb2⟩
      case measure => simp [intOf]; omega
    · obtain rfl : k = t.size + 1 := by omega
      have hki : ¬ ((t.size : Int) + 1) ≤ t.size := by omega
      have HO := Lib.hid (And.intro ho hb)
      clear ho hb
      go_wp2
      go_loopw [5, 7] (fun v i wq => ∃ (k : Nat) (a : Option Addr) (c : Nat), k ≤ s.size ∧ i = .int .i64 ((k : Int) + 1) ∧ v = .slice a (t.size + 1) c ∧ OwnI wq w.heap.size a (t.size + 1) c (edRow s t k (t.size + 1)) ∧ Ext w wq) (fun _ i _ => s.size + 1 - (intOf i).toNat)
      case atStart => exact ⟨0, _, _, Nat.zero_le _, rfl, rfl, HO.out.1, HO.out.2⟩
      case round =>
        obtain ⟨k, a, c, hk, rfl, rfl, ho, hb⟩ := hrel
        obtain ⟨wo, rfl⟩ : ∃ wo : World, wo = wr := ⟨_, rfl⟩
        obtain ⟨b0, o0, rfl, hb0, hc0⟩ := ho.rd.at (Nat.succ_pos _)
        have HC := Lib.hid hc0
        clear hc0 HO
        by_cases hlt : k < s.size
        · have hki : (k : Int) + 1 ≤ s.size := by omega
          have hki2 : (k : Int) < s.size := by omega
          have h1o : OwnI (wo.alloc (.cells #[.int .i64 ((k : Int) + 1)] 2)) wo.heap.size (some ⟨wo.heap.size, 0, none⟩) 1 1 (edRow s t (k + 1) 1) := ⟨by rw [edRow_one]; exact OwnI.lit1 wo _ (Nat.le_refl _), by decide⟩
          have H1 := Lib.hid (And.intro h1o ((Ext.refl wo).alloc (.cells #[.int .i64 ((k : Int) + 1)] 2)))
          clear h1o
          go_wp2
          go_loopw [8, 9] (fun v i wq => ∃ (l : Nat) (a : Option Addr) (c : Nat), l ≤ t.size ∧ i = .int .i64 ((l : Int) + 1) ∧ v = .slice a (l + 1) c ∧ OwnI wq wo.heap.size a (l + 1) c (edRow s t (k + 1) (l + 1)) ∧ Ext wo wq) (fun _ i _ => t.size + 1 - (intOf i).toNat)
          case atStart => exact ⟨0, _, _, Nat.zero_le _, rfl, rfl, H1.out.1, H1.out.2⟩
          case round =>
            obtain ⟨l, a2, c2, hl, rfl, rfl, ho2, hb2⟩ := hrel
            by_cases hlt2 : l < t.size
            · have hli : (l : Int) + 1 ≤ t.size := by omega
              have hli2 : (l : Int) < t.size := by omega
              have k1 := (Below.cell hb2 (p := ⟨b0, o0 + l, none⟩) hb0).trans (HC.out l (by omega))
              have k2 := (Below.cell hb2 (p := ⟨b0, o0 + (l + 1), none⟩) hb0).trans (HC.out (l + 1) (by omega))
              obtain ⟨b3, o3, rfl, hb3, hc3⟩ := ho2.rd.at (Nat.succ_pos _)
              have k3 := hc3 l (by omega)
              rw [edRow_get _ _ _ _ _ (by omega)] at k1 k2 k3
              have e1 := ed_bd s t k l
              have e2 := ed_bd s t k (l + 1)
              have e3 := ed_bd s t (k + 1) l
              have es := ed_step s t k l
              have ebs := byt_eq hlt
              have ebt := byt_eq hlt2
              rw [ebs, ebt] at es
              have HE := Lib.hid (And.intro es (And.intro ho2 hb2))
              clear hc3 es ebs ebt ho2 hb2
              cases hc : ((s[k].toNat : Int) != (t[l].toNat : Int))
              · have hce : (s[k].toNat : Int) = t[l].toNat := by simpa using hc
                have HCE := Lib.hid hce
                clear hce
                have q1 : IntKind.i64.wrap ((l : Int) + 1) = (l : Int) + 1 := IntWalk.i64_in _ (by omega)
                have q2 : 0 ≤ (l : Int) + 1 := by omega
                have q3 : ((l : Int) + 1).toNat = l + 1 := by omega
                have q4 : IntKind.i64.wrap (ed s t k (l + 1) + 1) = ed s t k (l + 1) + 1 := IntWalk.i64_in _ (by omega)
                have q5 : IntKind.i64.wrap (ed s t (k + 1) l + 1) = ed s t (k + 1) l + 1 := IntWalk.i64_in _ (by omega)
                have q9 : IntKind.i64.wrap (ed s t k l + 1) = ed s t k l + 1 := IntWalk.i64_in _ (by omega)
                have q6 : (l : Int) + 1 < t.size + 1 := by omega
                have q7 : (l : Int) < (l : Int) + 1 := by omega
                have q8 : (0 : Int) ≤ (l : Int) := by omega
                have r1 : IntKind.i64.wrap ((l : Int) + 1 - 1) = l := (IntWalk.i64_in _ (by omega)).trans (by omega)
                have r3 : IntKind.i64.wrap (l : Int) = l := IntWalk.i64_in _ (by omega)
                have r2 : IntKind.i64.wrap ((k : Int) + 1 - 1) = k := (IntWalk.i64_in _ (by omega)).trans (by omega)
                have hv := HE.out.1
                rw [if_pos HCE.out] at hv
                have HV := Lib.hid hv
                clear hv
                go_wp2
                go_quiet (fail)
                go_wp2
                go_region_law (first | (refine step_appI rfl _ _ rfl wo.heap.size _ (l + 1) _ rfl (by first | exact HE.out.2.1.alloc _ | exact (HE.out.2.1.ext (Ext.refl _).drew).alloc _ | exact (HE.out.2.1.ext ((Ext.refl _).drewN _)).alloc _) _ 1 _ [_] rfl (RdI.new1 _ _ _) (by omega) (by first | exact (HE.out.2.2.alloc _).size | exact (HE.out.2.2.drew.alloc _).size | exact ((HE.out.2.2.drewN _).alloc _).size) ?_; intro a5 c5 w5 hown hgrow; have hb5 := (HE.out.2.2.drewN _).app (HE.out.2.1.ext ((Ext.refl _).drewN _)) (Nat.le_refl _) hgrow))
                all_goals
                  have hnew : OwnI w5 wo.heap.size a5 (l + 1 + 1) c5 (edRow s t (k + 1) (l + 1 + 1)) := by
                    rw [edRow_succ, HV.out]
                    have e : ∀ (x y : Int), x = y → OwnI w5 wo.heap.size a5 (l + 1 + 1) c5 (edRow s t (k + 1) (l + 1) ++ [x]) → OwnI w5 wo.heap.size a5 (l + 1 + 1) c5 (edRow s t (k + 1) (l + 1) ++ [y]) := fun x y h h2 => h ▸ h2
                    refine e _ _ ?_ hown
                    repeat' split
                    all_goals omega
                  have HN := Lib.hid (And.intro hnew hb5)
                  clear hnew hown hgrow hb5
                  go_wp2
                  try go_roundw
                  all_goals first
                    | exact ⟨l + 1, a5, c5, by omega, by first | rfl | go_num | simp, rfl, HN.out.1, HN.out.2⟩
                    | exact ⟨.slice a5 (l + 1 + 1) c5, .int .i64 ((l : Int) + 1 + 1), _, ⟨l + 1, by omega, by go_num, a5, c5, rfl, HN.out.1, HN.out.2⟩, rfl, rfl, rfl⟩
                    | (refine ⟨⟨.slice a5 (l + 1 + 1) c5, .int .i64 ((l : Int) + 1 + 1), _, ⟨l + 1, by omega, by go_num, a5, c5, rfl, HN.out.1, HN.out.2⟩, rfl, rfl, rfl⟩, ?_⟩; simp [intOf]; omega)
                    | exact ⟨.slice a5 (l + 1 + 1) c5, _, _, .int .i64 ((l : Int) + 1 + 1), ⟨l + 1, by omega, by go_num, a5, c5, rfl, HN.out.1, HN.out.2⟩, rfl, rfl, rfl, rfl⟩
                    | (refine ⟨⟨.slice a5 (l + 1 + 1) c5, _, _, .int .i64 ((l : Int) + 1 + 1), ⟨l + 1, by omega, by go_num, a5, c5, rfl, HN.out.1, HN.out.2⟩, rfl, rfl, rfl, rfl⟩, ?_⟩; simp [intOf]; omega)
                    | (simp [intOf]; omega)
              · have hce : ¬ (s[k].toNat : Int) = t[l].toNat := by simpa using hc
                have HCE := Lib.hid hce
                clear hce
                have q1 : IntKind.i64.wrap ((l : Int) + 1) = (l : Int) + 1 := IntWalk.i64_in _ (by omega)
                have q2 : 0 ≤ (l : Int) + 1 := by omega
                have q3 : ((l : Int) + 1).toNat = l + 1 := by omega
                have q4 : IntKind.i64.wrap (ed s t k (l + 1) + 1) = ed s t k (l + 1) + 1 := IntWalk.i64_in _ (by omega)
                have q5 : IntKind.i64.wrap (ed s t (k + 1) l + 1) = ed s t (k + 1) l + 1 := IntWalk.i64_in _ (by omega)
                have q9 : IntKind.i64.wrap (ed s t k l + 1) = ed s t k l + 1 := IntWalk.i64_in _ (by omega)
                have q6 : (l : Int) + 1 < t.size + 1 := by omega
                have q7 : (l : Int) < (l : Int) + 1 := by omega
                have q8 : (0 : Int) ≤ (l : Int) := by omega
                have r1 : IntKind.i64.wrap ((l : Int) + 1 - 1) = l := (IntWalk.i64_in _ (by omega)).trans (by omega)
                have r3 : IntKind.i64.wrap (l : Int) = l := IntWalk.i64_in _ (by omega)
                have r2 : IntKind.i64.wrap ((k : Int) + 1 - 1) = k := (IntWalk.i64_in _ (by omega)).trans (by omega)
                have hv := HE.out.1
                rw [if_neg HCE.out] at hv
                have HV := Lib.hid hv
                clear hv
                go_wp2
                go_quiet (fail)
                go_wp2
                go_region_law (first | (refine step_appI rfl _ _ rfl wo.heap.size _ (l + 1) _ rfl (by first | exact HE.out.2.1.alloc _ | exact (HE.out.2.1.ext (Ext.refl _).drew).alloc _ | exact (HE.out.2.1.ext ((Ext.refl _).drewN _)).alloc _) _ 1 _ [_] rfl (RdI.new1 _ _ _) (by omega) (by first | exact (HE.out.2.2.alloc _).size | exact (HE.out.2.2.drew.alloc _).size | exact ((HE.out.2.2.drewN _).alloc _).size) ?_; intro a5 c5 w5 hown hgrow; have hb5 := (HE.out.2.2.drewN _).app (HE.out.2.1.ext ((Ext.refl _).drewN _)) (Nat.le_refl _) hgrow))
                all_goals
                  have hnew : OwnI w5 wo.heap.size a5 (l + 1 + 1) c5 (edRow s t (k + 1) (l + 1 + 1)) := by
                    rw [edRow_succ, HV.out]
                    have e : ∀ (x y : Int), x = y → OwnI w5 wo.heap.size a5 (l + 1 + 1) c5 (edRow s t (k + 1) (l + 1) ++ [x]) → OwnI w5 wo.heap.size a5 (l + 1 + 1) c5 (edRow s t (k + 1) (l + 1) ++ [y]) := fun x y h h2 => h ▸ h2
                    refine e _ _ ?_ hown
                    repeat' split
                    all_goals omega
                  have HN := Lib.hid (And.intro hnew hb5)
                  clear hnew hown hgrow hb5
                  go_wp2
                  try go_roundw
                  all_goals first
                    | exact ⟨l + 1, a5, c5, by omega, by first | rfl | go_num | simp, rfl, HN.out.1, HN.out.2⟩
                    | exact ⟨.slice a5 (l + 1 + 1) c5, .int .i64 ((l : Int) + 1 + 1), _, ⟨l + 1, by omega, by go_num, a5, c5, rfl, HN.out.1, HN.out.2⟩, rfl, rfl, rfl⟩
                    | (refine ⟨⟨.slice a5 (l + 1 + 1) c5, .int .i64 ((l : Int) + 1 + 1), _, ⟨l + 1, by omega, by go_num, a5, c5, rfl, HN.out.1, HN.out.2⟩, rfl, rfl, rfl⟩, ?_⟩; simp [intOf]; omega)
                    | exact ⟨.slice a5 (l + 1 + 1) c5, _, _, .int .i64 ((l : Int) + 1 + 1), ⟨l + 1, by omega, by go_num, a5, c5, rfl, HN.out.1, HN.out.2⟩, rfl, rfl, rfl, rfl⟩
                    | (refine ⟨⟨.slice a5 (l + 1 + 1) c5, _, _, .int .i64 ((l : Int) + 1 + 1), ⟨l + 1, by omega, by go_num, a5, c5, rfl, HN.out.1, HN.out.2⟩, rfl, rfl, rfl, rfl⟩, ?_⟩; simp [intOf]; omega)
                    | (simp [intOf]; omega)
            · obtain rfl : l = t.size := by omega
              have hli : ¬ ((t.size : Int) + 1) ≤ t.size := by omega
              go_wp2
              go_roundw
              case rel => exact ⟨k + 1, a2, c2, by omega, by go_num, rfl, ho2.mono hb.size, hb.trans hb2⟩
              case measure => simp [intOf]; omega
        · obtain rfl : k = s.size := by omega
          have hki : ¬ ((s.size : Int) + 1) ≤ s.size := by omega
          have hck := HC.out t.size (by omega)
          rw [edRow_get _ _ _ _ _ (by omega)] at hck
          have hti : (t.size : Int) < t.size + 1 := by omega
          go_wp2
          go_ret
          exact ⟨rfl, hb⟩

end Go.Proofs.YtfglmoedicijkaaDoor

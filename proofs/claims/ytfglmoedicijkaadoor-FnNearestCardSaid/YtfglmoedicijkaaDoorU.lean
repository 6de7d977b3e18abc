/-
  The edit distance: the program's and the reference's loops fill the same rows.
-/
import Derived.Test.YtfglmoedicijkaaDoorT3
import Derived.Test.YtfglmoedicijkaaDoorR
import Derived.Test.YtfglmoedicijkaaDoorRL
namespace Go.Proofs.YtfglmoedicijkaaDoor
open Go.RowKit

/-- Byte k of a text, as a number. -/
def byt (s : ByteArray) (k : Nat) : Int := if h : k < s.size then (s[k].toNat : Int) else 0
theorem byt_eq {s : ByteArray} {k : Nat} (h : k < s.size) : byt s k = (s[k].toNat : Int) := by rw [byt, dif_pos h]
/-- The least number of steps from the first i letters of a to the first k of b. -/
def ed (a b : ByteArray) : Nat → Nat → Int
  | 0, k => k
  | i + 1, 0 => (i : Int) + 1
  | i + 1, k + 1 => min (min (ed a b i k + if byt a i = byt b k then 0 else 1) (ed a b i (k + 1) + 1)) (ed a b (i + 1) k + 1)
termination_by i k => (i, k)
theorem ed_zero (a b : ByteArray) (k : Nat) : ed a b 0 k = k := by rw [ed]
theorem ed_left (a b : ByteArray) (i : Nat) : ed a b (i + 1) 0 = (i : Int) + 1 := by rw [ed]
theorem ed_step (a b : ByteArray) (i k : Nat) : ed a b (i + 1) (k + 1) = min (min (ed a b i k + if byt a i = byt b k then 0 else 1) (ed a b i (k + 1) + 1)) (ed a b (i + 1) k + 1) := by rw [ed]
theorem ed_bd (a b : ByteArray) : ∀ i k, 0 ≤ ed a b i k ∧ ed a b i k ≤ i + k := by
  intro i
  induction i with
  | zero => intro k; rw [ed_zero]; omega
  | succ i ih =>
    intro k
    induction k with
    | zero => rw [ed_left]; omega
    | succ k ihk =>
      rw [ed_step]
      have h1 := ih k
      have h2 := ih (k + 1)
      split <;> omega
/-- Row i, its first m numbers. -/
def edRow (a b : ByteArray) (i m : Nat) : List Int := (List.range m).map (ed a b i)
theorem edRow_len (a b : ByteArray) (i m : Nat) : (edRow a b i m).length = m := by simp [edRow]
theorem edRow_get (a b : ByteArray) (i m k : Nat) (h : k < m) : nth (edRow a b i m) k = ed a b i k := by simp [nth, edRow, h]
theorem edRow_succ (a b : ByteArray) (i m : Nat) : edRow a b i (m + 1) = edRow a b i m ++ [ed a b i m] := by simp [edRow, List.range_succ]
theorem edRow_one (a b : ByteArray) (i : Nat) : edRow a b (i + 1) 1 = [(i : Int) + 1] := by simp [edRow, ed_left]

theorem edRow0_set (a b : ByteArray) (k m : Nat) (h : k < m) : ((edRow a b 0 k).map (Value.int .i64) ++ List.replicate (m - k) (Value.int .i64 0)).set k (Value.int .i64 k) = (edRow a b 0 (k + 1)).map (Value.int .i64) ++ List.replicate (m - (k + 1)) (Value.int .i64 0) := by
  have e : m - k = (m - (k + 1)) + 1 := by omega
  rw [e, List.replicate_succ]
  have hl : ((edRow a b 0 k).map (Value.int .i64)).length = k := by rw [List.length_map, edRow_len]
  rw [List.set_append_right _ _ (by omega), hl, Nat.sub_self, edRow_succ, List.map_append, List.append_assoc, ed_zero]
  rfl

set_option maxRecDepth 100000 in
set_option maxHeartbeats 1000000 in
theorem editDistance_any (s t : ByteArray) (w : World) (hs : s.size ≤ 1073741824) (ht : t.size ≤ 1073741824) :
    Calls Tryd.prog 53 #[.string s, .string t] w fun e w' => e = .returned (.int .i64 (ed s t s.size t.size)) ∧ Ext w w' := by
  obtain ⟨i0, hi, hz0, hz1, hz2⟩ := info_parts Tryd.info_i64
  go_enter Tryd.func53, Tryd.ntmps53
  go_wp2_with (first | (at_make; refine wpList_make_full _ rfl _ _ 22 rfl w.heap.size 2 i0 (.int .i64 0) 1 Tryd.underlying22 hi hz0 hz1 _ _ _ _ (t.size + 1) rfl rfl (by omega) (by omega) (by rw [hz2]; omega) (by simp [maxLen]; omega) (Nat.le_refl _) ?_; intro w1 hown hgrow))
  go_loopw [17] (fun i wr => ∃ k : Nat, k ≤ t.size + 1 ∧ i = .int .i64 k ∧ wr.ownsRow w.heap.size 2 1 (.slice (some ⟨w.heap.size, 0, none⟩) (t.size + 1) (t.size + 1)) (t.size + 1) ((edRow s t 0 k).map (Value.int .i64) ++ List.replicate (t.size + 1 - k) (Value.int .i64 0)) ∧ Ext w wr) (fun i _ => t.size + 1 - (intOf i).toNat)
  case atStart => exact ⟨0, Nat.zero_le _, rfl, by have e := toList_madeCells_one (.int .i64 0) (t.size + 1); simpa [Value.cells, e, edRow] using hown, (Ext.refl _).grown0 hgrow⟩
  case round =>
    obtain ⟨k, hk, rfl, ho, hb⟩ := hrel
    by_cases hlt : k < t.size + 1
    · have hf := ho.frozenAt k
      obtain ⟨u, hu⟩ := own_old ho k hlt
      have hs1 := (ho.stored k (.int .i64 k)).1
      rw [edRow0_set s t k _ hlt] at hs1
      have HS := Lib.hid (And.intro hs1 (hb.setCell (p := ⟨w.heap.size, k, none⟩) (Nat.le_refl _) (.int .i64 k)))
      have hki : (k : Int) < t.size + 1 := by omega
      clear hs1 ho hb
      go_wp2
      go_roundw
      case rel => exact ⟨k + 1, by omega, by go_num, by simpa using HS.out.1, by simpa using HS.out.2⟩
      case measure => simp [intOf]; omega
    · obtain rfl : k = t.size + 1 := by omega
      rw [Nat.sub_self, List.replicate_zero, List.append_nil] at ho
      have ho2 : OwnI wr w.heap.size (some ⟨w.heap.size, 0, none⟩) (t.size + 1) (t.size + 1) (edRow s t 0 (t.size + 1)) := ⟨ho, by omega⟩
      have HO := Lib.hid (And.intro ho2 hb)
      clear ho ho2 hb hown hgrow
      go_wp2
      go_loopw [5, 27] (fun v i wq => ∃ (k : Nat) (a : Option Addr) (c : Nat), k ≤ s.size ∧ i = .int .i64 k ∧ v = .slice a (t.size + 1) c ∧ OwnI wq w.heap.size a (t.size + 1) c (edRow s t k (t.size + 1)) ∧ Ext w wq) (fun _ i _ => s.size - (intOf i).toNat)
      case atStart => exact ⟨0, _, _, Nat.zero_le _, rfl, rfl, HO.out.1, HO.out.2⟩
      case round =>
        obtain ⟨k, a, c, hk, rfl, rfl, ho, hb⟩ := hrel
        obtain ⟨wo, rfl⟩ : ∃ wo : World, wo = wr := ⟨_, rfl⟩
        obtain ⟨b0, o0, rfl, hb0, hc0⟩ := ho.rd.at (Nat.succ_pos _)
        have HC := Lib.hid hc0
        clear hc0 HO
        by_cases hlt : k < s.size
        · have hki : (k : Int) < s.size := by omega
          have h1o : OwnI (wo.alloc (.cells #[.int .i64 ((k : Int) + 1)] 2)) wo.heap.size (some ⟨wo.heap.size, 0, none⟩) 1 1 (edRow s t (k + 1) 1) := ⟨by rw [edRow_one]; exact OwnI.lit1 wo _ (Nat.le_refl _), by decide⟩
          have H1 := Lib.hid (And.intro h1o ((Ext.refl wo).alloc (.cells #[.int .i64 ((k : Int) + 1)] 2)))
          clear h1o
          go_wp2
          go_loopw [8, 35] (fun v i wq => ∃ (l : Nat) (a : Option Addr) (c : Nat), l ≤ t.size ∧ i = .int .i64 l ∧ v = .slice a (l + 1) c ∧ OwnI wq wo.heap.size a (l + 1) c (edRow s t (k + 1) (l + 1)) ∧ Ext wo wq) (fun _ i _ => t.size - (intOf i).toNat)
          case atStart => exact ⟨0, _, _, Nat.zero_le _, rfl, rfl, H1.out.1, H1.out.2⟩
          case round =>
            obtain ⟨l, a2, c2, hl, rfl, rfl, ho2, hb2⟩ := hrel
            by_cases hlt2 : l < t.size
            · have hli : (l : Int) < t.size := by omega
              have k1 := (Below.cell hb2 (p := ⟨b0, o0 + l, none⟩) hb0).trans (HC.out l (by omega))
              have k2 := (Below.cell hb2 (p := ⟨b0, o0 + (l + 1), none⟩) hb0).trans (HC.out (l + 1) (by omega))
              obtain ⟨b3, o3, rfl, hb3, hc3⟩ := ho2.rd.at (Nat.succ_pos _)
              have k3 := hc3 l (by omega)
              rw [edRow_get _ _ _ _ _ (by omega)] at k1 k2 k3
              have e1 := ed_bd s t k l
              have e2 := ed_bd s t k (l + 1)
              have e3 := ed_bd s t (k + 1) l
              have es := ed_step s t k l
              have ebs := byt_eq hlt
              have ebt := byt_eq hlt2
              rw [ebs, ebt] at es
              have HE := Lib.hid (And.intro es (And.intro ho2 hb2))
              clear hc3 es ebs ebt ho2 hb2
              cases hc : ((s[k].toNat : Int) != (t[l].toNat : Int))
              · have hce : (s[k].toNat : Int) = t[l].toNat := by simpa using hc
                have HCE := Lib.hid hce
                clear hce
                have q1 : IntKind.i64.wrap ((l : Int) + 1) = (l : Int) + 1 := IntWalk.i64_in _ (by omega)
                have q2 : 0 ≤ (l : Int) + 1 := by omega
                have q3 : ((l : Int) + 1).toNat = l + 1 := by omega
                have q4 : IntKind.i64.wrap (ed s t k (l + 1) + 1) = ed s t k (l + 1) + 1 := IntWalk.i64_in _ (by omega)
                have q5 : IntKind.i64.wrap (ed s t (k + 1) l + 1) = ed s t (k + 1) l + 1 := IntWalk.i64_in _ (by omega)
                have q9 : IntKind.i64.wrap (ed s t k l + 1) = ed s t k l + 1 := IntWalk.i64_in _ (by omega)
                have q6 : (l : Int) + 1 < t.size + 1 := by omega
                have q7 : (l : Int) < (l : Int) + 1 := by omega
                have q8 : (0 : Int) ≤ (l : Int) := by omega
                have hv := HE.out.1
                rw [if_pos HCE.out] at hv
                have HV := Lib.hid hv
                clear hv
                go_wp2
                go_quiet (fail)
                go_wp2
                go_region_law (first | (refine step_appI rfl _ _ rfl wo.heap.size _ (l + 1) _ rfl (by first | exact HE.out.2.1.alloc _ | exact (HE.out.2.1.ext (Ext.refl _).drew).alloc _ | exact (HE.out.2.1.ext ((Ext.refl _).drewN _)).alloc _) _ 1 _ [_] rfl (RdI.new1 _ _ _) (by omega) (by first | exact (HE.out.2.2.alloc _).size | exact (HE.out.2.2.drew.alloc _).size | exact ((HE.out.2.2.drewN _).alloc _).size) ?_; intro a5 c5 w5 hown hgrow; have hb5 := (HE.out.2.2.drewN _).app (HE.out.2.1.ext ((Ext.refl _).drewN _)) (Nat.le_refl _) hgrow))
                all_goals
                  have hnew : OwnI w5 wo.heap.size a5 (l + 1 + 1) c5 (edRow s t (k + 1) (l + 1 + 1)) := by
                    rw [edRow_succ, HV.out]
                    have e : ∀ (x y : Int), x = y → OwnI w5 wo.heap.size a5 (l + 1 + 1) c5 (edRow s t (k + 1) (l + 1) ++ [x]) → OwnI w5 wo.heap.size a5 (l + 1 + 1) c5 (edRow s t (k + 1) (l + 1) ++ [y]) := fun x y h h2 => h ▸ h2
                    refine e _ _ ?_ hown
                    repeat' split
                    all_goals omega
                  have HN := Lib.hid (And.intro hnew hb5)
                  clear hnew hown hgrow hb5
                  go_wp2
                  try go_roundw
                  all_goals first
                    | exact ⟨.slice a5 (l + 1 + 1) c5, _, _, .int .i64 ((l : Int) + 1), ⟨l + 1, by omega, by go_num, a5, c5, rfl, HN.out.1, HN.out.2⟩, rfl, rfl, rfl, rfl⟩
                    | (refine ⟨⟨.slice a5 (l + 1 + 1) c5, _, _, .int .i64 ((l : Int) + 1), ⟨l + 1, by omega, by go_num, a5, c5, rfl, HN.out.1, HN.out.2⟩, rfl, rfl, rfl, rfl⟩, ?_⟩; simp [intOf]; omega)
                    | (simp [intOf]; omega)
              · have hce : ¬ (s[k].toNat : Int) = t[l].toNat := by simpa using hc
                have HCE := Lib.hid hce
                clear hce
                have q1 : IntKind.i64.wrap ((l : Int) + 1) = (l : Int) + 1 := IntWalk.i64_in _ (by omega)
                have q2 : 0 ≤ (l : Int) + 1 := by omega
                have q3 : ((l : Int) + 1).toNat = l + 1 := by omega
                have q4 : IntKind.i64.wrap (ed s t k (l + 1) + 1) = ed s t k (l + 1) + 1 := IntWalk.i64_in _ (by omega)
                have q5 : IntKind.i64.wrap (ed s t (k + 1) l + 1) = ed s t (k + 1) l + 1 := IntWalk.i64_in _ (by omega)
                have q9 : IntKind.i64.wrap (ed s t k l + 1) = ed s t k l + 1 := IntWalk.i64_in _ (by omega)
                have q6 : (l : Int) + 1 < t.size + 1 := by omega
                have q7 : (l : Int) < (l : Int) + 1 := by omega
                have q8 : (0 : Int) ≤ (l : Int) := by omega
                have hv := HE.out.1
                rw [if_neg HCE.out] at hv
                have HV := Lib.hid hv
                clear hv
                go_wp2
                go_quiet (fail)
                go_wp2
                go_region_law (first | (refine step_appI rfl _ _ rfl wo.heap.size _ (l + 1) _ rfl (by first | exact HE.out.2.1.alloc _ | exact (HE.out.2.1.ext (Ext.refl _).drew).alloc _ | exact (HE.out.2.1.ext ((Ext.refl _).drewN _)).alloc _) _ 1 _ [_] rfl (RdI.new1 _ _ _) (by omega) (by first | exact (HE.out.2.2.alloc _).size | exact (HE.out.2.2.drew.alloc _).size | exact ((HE.out.2.2.drewN _).alloc _).size) ?_; intro a5 c5 w5 hown hgrow; have hb5 := (HE.out.2.2.drewN _).app (HE.out.2.1.ext ((Ext.refl _).drewN _)) (Nat.le_refl _) hgrow))
                all_goals
                  have hnew : OwnI w5 wo.heap.size a5 (l + 1 + 1) c5 (edRow s t (k + 1) (l + 1 + 1)) := by
                    rw [edRow_succ, HV.out]
                    have e : ∀ (x y : Int), x = y → OwnI w5 wo.heap.size a5 (l + 1 + 1) c5 (edRow s t (k + 1) (l + 1) ++ [x]) → OwnI w5 wo.heap.size a5 (l + 1 + 1) c5 (edRow s t (k + 1) (l + 1) ++ [y]) := fun x y h h2 => h ▸ h2
                    refine e _ _ ?_ hown
                    repeat' split
                    all_goals omega
                  have HN := Lib.hid (And.intro hnew hb5)
                  clear hnew hown hgrow hb5
                  go_wp2
                  try go_roundw
                  all_goals first
                    | exact ⟨.slice a5 (l + 1 + 1) c5, _, _, .int .i64 ((l : Int) + 1), ⟨l + 1, by omega, by go_num, a5, c5, rfl, HN.out.1, HN.out.2⟩, rfl, rfl, rfl, rfl⟩
                    | (refine ⟨⟨.slice a5 (l + 1 + 1) c5, _, _, .int .i64 ((l : Int) + 1), ⟨l + 1, by omega, by go_num, a5, c5, rfl, HN.out.1, HN.out.2⟩, rfl, rfl, rfl, rfl⟩, ?_⟩; simp [intOf]; omega)
                    | (simp [intOf]; omega)
            · obtain rfl : l = t.size := by omega
              go_wp2
              go_roundw
              case rel => exact ⟨k + 1, a2, c2, by omega, by go_num, rfl, ho2.mono hb.size, hb.trans hb2⟩
              case measure => simp [intOf]; omega
        · obtain rfl : k = s.size := by omega
          have hck := HC.out t.size (by omega)
          rw [edRow_get _ _ _ _ _ (by omega)] at hck
          have hti : (t.size : Int) < t.size + 1 := by omega
          go_wp2
          go_ret
          exact ⟨rfl, hb⟩
end Go.Proofs.YtfglmoedicijkaaDoor

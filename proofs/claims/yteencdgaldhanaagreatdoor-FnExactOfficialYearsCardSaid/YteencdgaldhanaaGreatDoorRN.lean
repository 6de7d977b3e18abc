/-
  RenameIn: names cloned, one of them taken out, one more appended; the program's own functions.
-/
import Derived.Test.YteencdgaldhanaaGreatDoorNU2
import Derived.Test.YteencdgaldhanaaGreatDoorM0
import Derived.Test.YteencdgaldhanaaGreatDoorINS
import Derived.RegionTactic
namespace Go.Proofs.YteencdgaldhanaaGreatDoor
open Go.RowKit
attribute [local go_sem ↓] Go.wp_at_zero Go.wp_at_succ

set_option maxRecDepth 100000 in
set_option maxHeartbeats 1000000 in
theorem cloneName_any (a : Option Addr) (n c : Nat) (xs : List NameV) (w : World) (hr : RdName w a n xs) :
    Calls Tryz.prog 93 #[.slice a n c] w fun e w' => ∃ v, e = .returned v ∧ NewName w w' xs v := by
  have hm := hr.le
  have hq := fun (w : World) (a : Option Addr) (n c : Nat) => Lib.run_eql_slice_nil (P := Tryz.prog) w 27 62 a n c 0 0 Tryz.underlying27
  cases a with
  | none =>
    go_enter Tryz.func93, Tryz.ntmps93
    go_wp2
    go_ret
    obtain ⟨_, rfl⟩ := hr.1.isNone
    exact ⟨_, rfl, none, 0, 0, rfl, ⟨OwnG.isNil _ _ _ _, by simp⟩, Ext.refl _⟩
  | some ad =>
    go_enter Tryz.func93, Tryz.ntmps93
    go_wp2_with (first | (at_builtin; refine wpList_appG layName rfl _ _ 27 62 rfl Tryz.underlying27 (.agg #[.string ⟨#[]⟩, .string ⟨#[]⟩, .int .i64 0, .int .i64 0, .int .i64 0]) 56 Tryz.info_Name rfl (by decide) w.heap.size _ 0 _ [] rfl (OwnG.lit layName 62 w (Nat.le_refl _) [] #[] rfl (by simp)) _ _ _ xs rfl (hr.1.ext ((Ext.refl _).alloc _)) (by omega) (by simp) ?_; intro a' c' w1 hown hgrow; simp only [Nat.zero_add, List.nil_append] at hown ⊢))
    go_ret
    exact ⟨_, rfl, _, _, _, rfl, ⟨hown, hr.2⟩, ((Ext.refl _).alloc _).wrote hgrow (Nat.le_refl _)⟩

theorem zeroName_run (w : World) : (zeroValue 62).run Tryz.prog w = .ok (.agg #[.string ⟨#[]⟩, .string ⟨#[]⟩, .int .i64 0, .int .i64 0, .int .i64 0]) w := by
  obtain ⟨i, hi, hz0, hz1, hz2⟩ := info_parts Tryz.info_Name
  simp [zeroValue, typeInfo, hi, hz0, go_sem]

theorem grown_ext' {w w1 : World} (h : Ext w w1) (r : Option Nat) : w.grownBy w1 r := ⟨h.os, h.tape, h.output, h.size, fun j hj _ => h.block j hj⟩
/-- What is left of a list without element k. -/
def without (xs : List NameV) (k : Nat) : List NameV := xs.take k ++ xs.drop (k + 1)
theorem without_cells {xs : List NameV} {k n : Nat} (hn : xs.length = n) (hk : k < n) (z : List Value) (hz : z.length = 5) :
    ((((xs.flatMap layName.cells).take (k * 5) ++ (xs.drop (k + 1)).flatMap layName.cells ++ (xs.flatMap layName.cells).drop (k * 5 + (n - (k + 1)) * 5)).take ((n - 1) * 5) ++ z ++
      ((xs.flatMap layName.cells).take (k * 5) ++ (xs.drop (k + 1)).flatMap layName.cells ++ (xs.flatMap layName.cells).drop (k * 5 + (n - (k + 1)) * 5)).drop ((n - 1) * 5 + 5)).take ((n - 1) * 5)) = (without xs k).flatMap layName.cells := by
  have e0 : (xs.flatMap layName.cells).take (k * 5) = (xs.take k).flatMap layName.cells := by
    have e4 : xs.flatMap layName.cells = (xs.take k).flatMap layName.cells ++ (xs.drop k).flatMap layName.cells := by rw [← List.flatMap_append, List.take_append_drop]
    rw [e4, List.take_append_of_le_length (by rw [flat_len, List.length_take, Nat.min_eq_left (by omega)]; exact Nat.le_refl _), List.take_of_length_le (by rw [flat_len, List.length_take, Nat.min_eq_left (by omega)]; exact Nat.le_refl _)]
  have l1 : ((xs.take k).flatMap layName.cells).length = k * 5 := by rw [flat_len, List.length_take, Nat.min_eq_left (by omega)]; rfl
  have l2 : ((xs.drop (k + 1)).flatMap layName.cells).length = (n - (k + 1)) * 5 := by rw [flat_len, List.length_drop, hn]; rfl
  rw [e0, without, List.flatMap_append]
  have l3 : ((xs.take k).flatMap layName.cells ++ (xs.drop (k + 1)).flatMap layName.cells).length = (n - 1) * 5 := by rw [List.length_append, l1, l2]; omega
  have t1 : ∀ r : List Value, ((xs.take k).flatMap layName.cells ++ (xs.drop (k + 1)).flatMap layName.cells ++ r).take ((n - 1) * 5) = (xs.take k).flatMap layName.cells ++ (xs.drop (k + 1)).flatMap layName.cells := fun r => by
    rw [← l3]; exact List.take_left'  rfl
  rw [t1]
  generalize ((xs.take k).flatMap layName.cells ++ (xs.drop (k + 1)).flatMap layName.cells ++ _).drop _ = q
  rw [List.append_assoc _ z q]
  exact t1 _

set_option maxRecDepth 100000 in
set_option maxHeartbeats 4000000 in
theorem deleteName_any (g n c B k : Nat) (xs : List NameV) (w : World) (ho : OwnName w B (some ⟨g, 0, none⟩) n c xs) (hk : k < n) (hc32 : c ≤ 9223372036854775807) :
    Calls Tryz.prog 94 #[.slice (some ⟨g, 0, none⟩) n c, .int .i64 k, .int .i64 ((k : Int) + 1)] w fun e w' => e = .returned (.slice (some ⟨g, 0, none⟩) (n - 1) c) ∧ OwnName w' B (some ⟨g, 0, none⟩) (n - 1) c (without xs k) ∧ w.grownBy w' (some g) := by
  have hcap := ho.cap
  have hn32 := ho.rd.le
  have hln := ho.rd.len
  obtain ⟨i0, hi0, hz0, hz1, hz2⟩ := info_parts Tryz.info_Name
  have hod : OwnG layName 62 w.drew B (some ⟨g, 0, none⟩) n c xs := ho.1.ext (Ext.refl _).drew
  have hlx : (xs.flatMap layName.cells).length = n * 5 := by rw [flat_len, hln]; rfl
  have hnl : ((xs.drop (k + 1)).flatMap layName.cells).length = (n - (k + 1)) * 5 := by rw [flat_len, List.length_drop, hln]; rfl
  obtain ⟨k1, k2⟩ := own_setCells ((xs.drop (k + 1)).flatMap layName.cells) (k * 5) w.drew _ hod.1 (by rw [hlx, hnl]; omega)
  obtain ⟨W1, hW1⟩ : ∃ W1, W1 = w.drew.setCells g (k * 5) ((xs.drop (k + 1)).flatMap layName.cells) := ⟨_, rfl⟩
  rw [← hW1] at k1 k2
  have hlen1 := k1.1
  obtain ⟨z, hz⟩ : ∃ z : List Value, z = (Value.agg #[.string ⟨#[]⟩, .string ⟨#[]⟩, .int .i64 0, .int .i64 0, .int .i64 0]).cells.toList := ⟨_, rfl⟩
  have hzl : z.length = 5 := by rw [hz]; rfl
  obtain ⟨m1, m2⟩ := own_setCells z ((n - 1) * 5) W1 _ k1 (by rw [hlen1, hzl]; show _ ≤ n * layName.sz; show (n - 1) * 5 + 5 ≤ n * 5; omega)
  have hcut := own_cut m1 (show n - 1 ≤ n by omega)
  have hwc := without_cells (xs := xs) (k := k) hln hk z hzl
  rw [hzl, hnl] at hcut
  have HR := Lib.hid (show OwnName (W1.setCells g ((n - 1) * 5) z) B (some ⟨g, 0, none⟩) (n - 1) c (without xs k) from
    ⟨⟨by rw [← hwc]; exact hcut, by omega⟩, fun x hx => ho.2 x ((List.mem_append.1 hx).elim List.mem_of_mem_take List.mem_of_mem_drop)⟩)
  have HG := Lib.hid (grown_trans' (grown_trans' (grown_ext' ((Ext.refl w).drew) (some g)) k2) m2)
  have hcl : ∀ ty, (Builtin.clear_ #[27] ty #[.slice (some ⟨g, (n - 1) * 5, none⟩) 1 (c - (n - 1))]).run Tryz.prog W1 = .ok (.tuple #[]) (W1.setCells g ((n - 1) * 5) z) := fun ty => by
    rw [hz]
    refine run_clear_one W1 _ _ ty _ Tryz.underlying27 zeroName_run (by decide) g ((n - 1) * 5) _ (fun j hj => ?_) (fun j hj => k1.frozenAt _)
    obtain ⟨u, hu⟩ := own_oldG k1 ((n - 1) * 5 + j) (by have : j < 5 := hj; show _ < n * 5; omega)
    rw [hu]; rfl
  -- what is appended is read where it lies
  have s1 : Hid (((xs.drop (k + 1)).flatMap layName.cells).length = (n - (k + 1)) * 5) := Lib.hid hnl
  have s2 : Hid (∀ u ∈ (xs.drop (k + 1)).flatMap layName.cells, u.oneCell' = true) := Lib.hid (flat_one layName _)
  have s3 : Hid (∀ j, j < ((xs.drop (k + 1)).flatMap layName.cells).length → (w.drew.cell? ⟨g, 0 + k * 5 + j, none⟩).isSome = true ∧ w.drew.frozen? ⟨g, 0 + k * 5 + j, none⟩ = false) := Lib.hid fun j hj => by
    rw [hnl] at hj
    obtain ⟨u, hu⟩ := own_oldG hod.1 (k * 5 + j) (by show _ < n * 5; omega)
    rw [Nat.zero_add]
    exact ⟨by rw [hu]; rfl, hod.1.frozenAt _⟩
  have s4 : Hid (∀ j u, ((xs.drop (k + 1)).flatMap layName.cells)[j]? = some u → w.drew.cell? ⟨g, (k + 1) * 5 + j, none⟩ = some u) := Lib.hid fun j u hu => by
    have hj := (List.getElem?_eq_some_iff.1 hu).1
    rw [hnl] at hj
    rw [hod.1.cellAt _ (by show _ < n * 5; omega)]
    have e4 : xs.flatMap layName.cells = (xs.take (k + 1)).flatMap layName.cells ++ (xs.drop (k + 1)).flatMap layName.cells := by rw [← List.flatMap_append, List.take_append_drop]
    have l1 : ((xs.take (k + 1)).flatMap layName.cells).length = (k + 1) * 5 := by rw [flat_len, List.length_take, Nat.min_eq_left (by omega)]; rfl
    rw [e4, List.getElem?_append_right (by omega), l1, Nat.add_sub_cancel_left]
    exact hu
  have HW := Lib.hid hW1
  have hki : (k : Int) < n := by omega
  have hkc : (k : Int) + 1 ≤ c := by omega
  have hkc0 : (k : Int) ≤ c := by omega
  have hk0 : (0 : Int) ≤ (k : Int) + 1 := by omega
  have hkn : (k : Int) + 1 ≤ n := by omega
  have hne : ((k : Int) == (k : Int) + 1) = false := beq_eq_false_iff_ne.2 (by omega)
  clear hwc hcut m1 m2 k1 k2 hod hlx hnl hlen1 hz hzl ho hW1
  go_enter Tryz.func94, Tryz.ntmps94
  obtain ⟨A, hA, hsrc⟩ : ∃ A : Addr, (if c = k + 1 then (some ⟨g, 0, none⟩ : Option Addr) else some ⟨g, (k + 1) * 5, none⟩) = some A ∧ Hid (∀ j u, ((xs.drop (k + 1)).flatMap layName.cells)[j]? = some u → w.drew.cell? (A.add j) = some u) := by
    by_cases h : c = k + 1
    · refine ⟨⟨g, 0, none⟩, by simp [h], Lib.hid fun j u hu => ?_⟩
      have hj := (List.getElem?_eq_some_iff.1 hu).1
      rw [s1.out] at hj
      omega
    · refine ⟨⟨g, (k + 1) * 5, none⟩, by simp [h], Lib.hid fun j u hu => ?_⟩
      rw [Addr.add_lit]
      exact s4.out j u hu
  clear s4
  go_wp2_with fail
  go_region_law (refine step_append_room rfl (.tmp 22) (.tmp 25) 27 rfl 62 i0 5 Tryz.underlying27 hi0 hz1 g 0 k c (by simp [Act.eval, Act.put]) A (n - (k + 1)) (c - (k + 1)) ((xs.drop (k + 1)).flatMap layName.cells) (by simp [Act.eval, Act.put]) s1.out hsrc.out s2.out (by omega) s3.out ?_; rw [Nat.zero_add, ← HW.out])
  rw [show k + (n - (k + 1)) = n - 1 by omega]
  have hcn1 : ¬ c = n - 1 := by omega
  have hcn2 : ¬ (c : Int) = ((n - 1 : Nat) : Int) := by omega
  have hn1 : n - (n - 1) = 1 := by omega
  have hn2 : ((n - 1 : Nat) : Int) ≤ n := by omega
  have hn3 : (n : Int) ≤ c := by omega
  clear hA hsrc
  go_wp2
  go_ret
  exact ⟨rfl, HR.out, HG.out⟩

end Go.Proofs.YteencdgaldhanaaGreatDoor

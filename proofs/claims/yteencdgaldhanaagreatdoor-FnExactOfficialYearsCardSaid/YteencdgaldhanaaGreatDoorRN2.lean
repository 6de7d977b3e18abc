/-
  RenameIn: the program's own functions, and the reference's.
-/
import Derived.Test.YteencdgaldhanaaGreatDoorRN
namespace Go.Proofs.YteencdgaldhanaaGreatDoor
open Go.RowKit
attribute [local go_sem ↓] Go.wp_at_zero Go.wp_at_succ

/-- Names in which the k-th ends before a year (it goes if it began then), and a new one at the end. -/
def renM (xs : List NameV) (k : Nat) (y : Int) : List NameV := if (nthName xs k).from_ = y then [] else [⟨(nthName xs k).text, (nthName xs k).lang, (nthName xs k).status, (nthName xs k).from_, y - 1⟩]
def renN (xs : List NameV) (k : Nat) (y : Int) (t : ByteArray) : NameV := ⟨t, (nthName xs k).lang, 0, y, (nthName xs k).to_⟩
def renL (xs : List NameV) (k : Nat) (y : Int) (t : ByteArray) : List NameV := xs.take k ++ (renM xs k y ++ xs.drop (k + 1)) ++ [renN xs k y t]
theorem ren_gone {xs : List NameV} {k : Nat} {y : Int} (t : ByteArray) (x' : NameV) (h : (nthName xs k).from_ = y) : renL xs k y t = without (xs.set k x') k ++ [renN xs k y t] := by
  rw [renL, renM, if_pos h, List.nil_append, without, List.take_set, List.set_eq_of_length_le (by simp; omega), List.drop_set, if_pos (by omega)]
theorem ren_kept {xs : List NameV} {k : Nat} {y : Int} (t : ByteArray) (hk : k < xs.length) (h : (nthName xs k).from_ ≠ y) : renL xs k y t = xs.set k ⟨(nthName xs k).text, (nthName xs k).lang, (nthName xs k).status, (nthName xs k).from_, y - 1⟩ ++ [renN xs k y t] := by
  rw [renL, renM, if_neg h, List.set_eq_take_append_cons_drop, if_pos hk]
  rfl
theorem renM_ok {xs : List NameV} {k : Nat} {y : Int} (h : okName (nthName xs k)) : ∀ x ∈ renM xs k y, okName x := by
  intro x hx
  rw [renM] at hx
  split at hx
  · simp at hx
  · rw [List.mem_singleton.1 hx]; exact h
theorem renL_ok {xs : List NameV} {k : Nat} {y : Int} {t : ByteArray} (h : ∀ x ∈ xs, okName x) (hk : k < xs.length) (ht : t.size ≤ 1073741824) : ∀ x ∈ renL xs k y t, okName x := by
  have hx := h _ (nthName_mem hk)
  intro x hm
  rw [renL, List.mem_append, List.mem_append, List.mem_append] at hm
  rcases hm with (h1 | h1 | h1) | h1
  · exact h x (List.mem_of_mem_take h1)
  · exact renM_ok hx x h1
  · exact h x (List.mem_of_mem_drop h1)
  · rw [List.mem_singleton.1 h1]; exact ⟨ht, hx.2⟩
theorem renL_len {xs : List NameV} {k : Nat} {y : Int} {t : ByteArray} (hk : k < xs.length) : (renL xs k y t).length ≤ xs.length + 1 ∧ 1 ≤ (renL xs k y t).length := by
  have : (renM xs k y).length ≤ 1 := by rw [renM]; split <;> simp
  rw [renL]
  simp only [List.length_append, List.length_take, List.length_drop, List.length_singleton]
  omega

theorem OwnG.capmax {α : Type} {L : Lay α} {e : TypeId} {w : World} {B g n c : Nat} {xs : List α} (h : OwnG L e w B (some ⟨g, 0, none⟩) n c xs) : c ≤ 9223372036854775807 := by
  rcases h.1.2 with ⟨h', _⟩ | ⟨g', cap, cur, hv, _, _, _, hm, _⟩
  · cases h'
  · cases hv; exact hm
set_option maxRecDepth 100000 in
set_option maxHeartbeats 4000000 in
theorem renamed_any (a : Option Addr) (n c k : Nat) (y : Int) (t : ByteArray) (xs : List NameV) (w : World) (hr : RdName w a n xs) (hk : k < n) (hn : n ≤ 1048576) (hy : -3000 ≤ y ∧ y ≤ 3000) (ht : t.size ≤ 1073741824) :
    Calls Tryz.prog 55 #[.slice a n c, .int .i64 k, .int .i64 y, .string t] w fun e w' => ∃ v, e = .returned v ∧ NewName w w' (renL xs k y t) v := by
  have hln := hr.len
  have hx0 : xs[k]? = some (nthName xs k) := by rw [nthName_eq (by omega)]; exact List.getElem?_eq_getElem (by omega)
  have hok := renL_ok (y := y) hr.2 (by omega) ht (k := k)
  obtain ⟨hy0, hy1⟩ := hy
  have ey : IntKind.i64.wrap (y - 1) = y - 1 := IntWalk.i64_in _ (by omega)
  go_enter Tryz.func55, Tryz.ntmps55
  go_wp2_with fail
  refine (cloneName_any _ _ _ _ _ hr).mono ?_
  rintro e w1 ⟨v, rfl, a1, n1, c1, rfl, o1, e1⟩
  obtain rfl : n = n1 := hr.len.symm.trans o1.rd.len
  obtain ⟨g, rfl⟩ := own_some o1.1 (by omega)
  have hcap := o1.cap
  obtain ⟨b', o', hbo, hbl, hA⟩ := o1.rd.at (by omega)
  cases hbo
  obtain ⟨d0, d1, d2, d3, d4⟩ := hA k hk
  simp only [Nat.zero_add] at d0 d1 d2 d3 d4
  have hki : (k : Int) < n := by omega
  clear hA
  obtain ⟨x', hx'⟩ : ∃ x' : NameV, x' = ⟨(nthName xs k).text, (nthName xs k).lang, (nthName xs k).status, (nthName xs k).from_, y - 1⟩ := ⟨_, rfl⟩
  obtain ⟨z', hz'⟩ : ∃ z' : NameV, z' = renN xs k y t := ⟨_, rfl⟩
  have hgB := (o1.1.1.lt _ rfl).1
  have hgl := (o1.1.1.lt _ rfl).2
  have hcm := OwnG.capmax o1.1
  have x2 := ((Ext.refl w1).alloc (.cells #[.string t, .string (nthName xs k).lang, .int .i64 0, .int .i64 y, .int .i64 (nthName xs k).to_] 62)).drew
  have xr := (Ext.refl (w1.alloc (.cells #[.string t, .string (nthName xs k).lang, .int .i64 0, .int .i64 y, .int .i64 (nthName xs k).to_] 62))).drew
  have hb0 : _ = some (Value.string t) := box_keptG xr 0
  have hb1 : _ = some (Value.string (nthName xs k).lang) := box_keptG xr 1
  have hb2 : _ = some (Value.int .i64 0) := box_keptG xr 2
  have hb3 : _ = some (Value.int .i64 y) := box_keptG xr 3
  have hb4 : _ = some (Value.int .i64 (nthName xs k).to_) := box_keptG xr 4
  clear xr
  go_wp2
  go_region
  have o2 := o1.1.ext x2
  have hx2s := x2.size
  have e2 := e1.trans x2
  have d4 := (Below.cell x2 (p := ⟨g, k * 5 + 3 + 1, none⟩) hgl).trans d4
  generalize hW2 : (w1.alloc (.cells #[.string t, .string (nthName xs k).lang, .int .i64 0, .int .i64 y, .int .i64 (nthName xs k).to_] 62)).drew = W2 at *
  have hW2s : w1.heap.size < W2.heap.size := by rw [← hW2]; simp
  clear hW2 x2
  have hf4 := o2.1.frozenAt (k * 5 + 3 + 1)
  obtain ⟨o3, g3⟩ := (show OwnG layName 62 (W2.setCell ⟨g, k * 5 + 3 + 1, none⟩ (.int .i64 (y - 1))) w.heap.size (some ⟨g, 0, none⟩) n c1 (xs.set k x') ∧ W2.grownBy (W2.setCell ⟨g, k * 5 + 3 + 1, none⟩ (.int .i64 (y - 1))) (some g) from o2.setAt (x' := x') (j := 4) (u := .int .i64 (y - 1)) hx0 (by decide) (by rw [hx']; rfl))
  have hset : ∀ j v, W2.cell? ⟨w1.heap.size, j, none⟩ = some v → (W2.setCell ⟨g, k * 5 + 3 + 1, none⟩ (.int .i64 (y - 1))).cell? ⟨w1.heap.size, j, none⟩ = some v := fun j v h => by
    rw [World.cell?_of_block (w := W2) (g3.block _ hW2s (by intro e; have := Option.some.inj e; simp only at this; omega))]; exact h
  have hb0 := hset _ _ hb0
  have hb1 := hset _ _ hb1
  have hb2 := hset _ _ hb2
  have hb3 := hset _ _ hb3
  have hb4 := hset _ _ hb4
  have e3 := e2.setCell (p := ⟨g, k * 5 + 3 + 1, none⟩) hgB (.int .i64 (y - 1))
  have hc3 : (W2.setCell ⟨g, k * 5 + 3 + 1, none⟩ (.int .i64 (y - 1))).cell? ⟨g, k * 5 + 3, none⟩ = some (.int .i64 (nthName xs k).from_) := by
    obtain ⟨b2, o2', hb2', _, hA2⟩ := RdName.at (xs := xs.set k x') (n := n) ⟨o3.rd, fun x hx => by
      rcases List.mem_or_eq_of_mem_set hx with h | h
      · exact hr.2 x h
      · rw [h, hx']; exact hr.ok hk⟩ (by omega)
    cases hb2'
    obtain ⟨_, _, _, h3, _⟩ := hA2 k hk
    rw [Nat.zero_add, nthName_eq (by rw [List.length_set]; omega), List.getElem_set_self, hx'] at h3
    exact h3
  have hsz3 : w1.heap.size < (W2.setCell ⟨g, k * 5 + 3 + 1, none⟩ (.int .i64 (y - 1))).heap.size := Nat.lt_of_lt_of_le hW2s g3.size
  have hok' : ∀ x ∈ xs.set k x', okName x := fun x hx => by
    rcases List.mem_or_eq_of_mem_set hx with h | h
    · exact hr.2 x h
    · rw [h, hx']; exact hr.ok hk
  have HW := Lib.hid (And.intro hx' hz')
  have hzc := Lib.hid (show (#[Value.string t, .string (nthName xs k).lang, .int .i64 0, .int .i64 y, .int .i64 (nthName xs k).to_] : Array Value).toList = layName.cells z' by rw [hz']; rfl)
  clear hset hx' hz'
  have HE := Lib.hid (And.intro e3 (And.intro o3 hok'))
  clear e3 o3 g3 hok' o2 e2 d0 d1 d2 d3 o1 e1
  by_cases hfy : (nthName xs k).from_ = y
  · have hfb : ((nthName xs k).from_ == y) = true := beq_iff_eq.2 hfy
    have HF := Lib.hid (ren_gone (xs := xs) t x' hfy)
    clear hfy
    go_wp2_with fail
    refine (deleteName_any g n c1 w.heap.size k (xs.set k x') _ ⟨HE.out.2.1, HE.out.2.2⟩ hk hcm).mono ?_
    rintro e w4 ⟨rfl, o4, g4⟩
    have hd : ∀ j v, (W2.setCell ⟨g, k * 5 + 3 + 1, none⟩ (.int .i64 (y - 1))).cell? ⟨w1.heap.size, j, none⟩ = some v → w4.cell? ⟨w1.heap.size, j, none⟩ = some v := fun j v h => by
      rw [World.cell?_of_block (w := (W2.setCell ⟨g, k * 5 + 3 + 1, none⟩ (.int .i64 (y - 1)))) (g4.block _ hsz3 (by intro e; have := Option.some.inj e; simp only at this; omega))]; exact h
    have hb0 := hd _ _ hb0
    have hb1 := hd _ _ hb1
    have hb2 := hd _ _ hb2
    have hb3 := hd _ _ hb3
    have hb4 := hd _ _ hb4
    have e4 := HE.out.1.grown g4 (by intro k' e'; cases e'; exact hgB)
    clear hd g4
    go_wp2_with (first | (at_builtin; refine wpList_appG layName rfl _ _ 27 62 rfl Tryz.underlying27 (.agg #[.string ⟨#[]⟩, .string ⟨#[]⟩, .int .i64 0, .int .i64 0, .int .i64 0]) 56 Tryz.info_Name rfl (by decide) w.heap.size _ (n - 1) _ (without (xs.set k x') k) rfl (o4.1.alloc _) _ 1 _ [z'] rfl (RdG.new1 layName _ _ _ hzc.out _) (by omega) (e4.alloc _).size ?_; intro a5 c5 w5 hown hgrow; have hb5 := e4.appG o4.1 (Nat.le_refl _) hgrow; have HO := Lib.hid hown; clear hown))
    go_ret
    refine ⟨_, rfl, _, _, _, rfl, ⟨?_, hok⟩, hb5⟩
    have h5 := HO.out
    rw [HF.out, ← HW.out.2]
    exact h5
  · have hfb : ((nthName xs k).from_ == y) = false := beq_eq_false_iff_ne.2 hfy
    have HF := Lib.hid (ren_kept (xs := xs) t (by omega) hfy)
    clear hfy
    have hb5' := HE.out.1
    have hrd := RdG.new1 layName (W2.setCell ⟨g, k * 5 + 3 + 1, none⟩ (.int .i64 (y - 1))) z' _ hzc.out 62
    rw [World.size_setCell] at hrd
    go_wp2_with (first | (at_builtin; refine wpList_appG layName rfl _ _ 27 62 rfl Tryz.underlying27 (.agg #[.string ⟨#[]⟩, .string ⟨#[]⟩, .int .i64 0, .int .i64 0, .int .i64 0]) 56 Tryz.info_Name rfl (by decide) w.heap.size _ n _ (xs.set k x') rfl (HE.out.2.1.alloc _) _ 1 _ [z'] rfl hrd (by omega) (hb5'.alloc _).size ?_; intro a5 c5 w5 hown hgrow; have hb5 := hb5'.appG HE.out.2.1 (Nat.le_refl _) hgrow; have HO := Lib.hid hown; clear hown))
    go_ret
    refine ⟨_, rfl, _, _, _, rfl, ⟨?_, hok⟩, hb5⟩
    have h5 := HO.out
    rw [HF.out, ← HW.out.2, ← HW.out.1]
    exact h5

end Go.Proofs.YteencdgaldhanaaGreatDoor

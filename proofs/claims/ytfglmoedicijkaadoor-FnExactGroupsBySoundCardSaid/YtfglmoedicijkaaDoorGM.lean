/-
  The statements' helpers on slices of slices of int64: compared, marked, held.
-/
import Derived.Test.YtfglmoedicijkaaDoorGG
import Derived.Test.YtfglmoedicijkaaDoorTK
import Derived.Deep.RegionHeld3
namespace Go.Proofs.YtfglmoedicijkaaDoor
open Go.RowKit

theorem OwnGr.kept {w w' : World} {B B' e sz n n' c c' m : Nat} {a a' : Option Addr} {xs : List Value} {gs : List Gr} (h : Wrote w w' a) (ho : OwnGr w B' a' n' c' gs)
    (hw : ∃ w1 : World, w1.ownsRow B e sz (.slice a n c) m xs ∧ w1.heap.size ≤ B') : OwnGr w' B' a' n' c' gs :=
  ⟨⟨h.kept ho.row.1 hw, ho.row.2⟩, fun q hq => ⟨h.kept (ho.each q hq).1 hw, (ho.each q hq).2⟩, ho.far⟩
/-- Nothing below B has turned. -/
structure Above (w w' : World) (B : Nat) : Prop where
  os : w'.os = w.os
  tape : w'.tape = w.tape
  output : w'.output = w.output
  size : w.heap.size ≤ w'.heap.size
  block : ∀ k, k < w.heap.size → k < B → w'.heap[k]? = w.heap[k]?
theorem Above.refl (w : World) (B : Nat) : Above w w B := ⟨rfl, rfl, rfl, Nat.le_refl _, fun _ _ _ => rfl⟩
theorem Above.wrote {w w1 w2 : World} {B e sz n c m : Nat} {a : Option Addr} {xs : List Value} (h : Above w w1 B) (ho : w1.ownsRow B e sz (.slice a n c) m xs) (k : Wrote w1 w2 a) : Above w w2 B :=
  ⟨k.os.trans h.os, k.tape.trans h.tape, k.output.trans h.output, Nat.le_trans h.size k.size, fun j hj hb => (k.block j (Nat.lt_of_lt_of_le hj h.size) (fun g hg => by
    subst hg
    have := (ho.lt _ rfl).1
    omega)).trans (h.block j hj hb)⟩
theorem Above.more {w w1 w2 : World} {B : Nat} (h : Above w w1 B) (x : Ext w1 w2) : Above w w2 B :=
  ⟨x.os.trans h.os, x.tape.trans h.tape, x.output.trans h.output, Nat.le_trans h.size x.size, fun j hj hb => (x.block j (Nat.lt_of_lt_of_le hj h.size)).trans (h.block j hj hb)⟩
theorem Above.ext {w0 w w' : World} {B : Nat} (h : Above w w' B) (h0 : Ext w0 w) (hB : w0.heap.size ≤ B) : Ext w0 w' :=
  Below.trans h0 ⟨h.os, h.tape, h.output, h.size, fun k hk => h.block k (Nat.lt_of_lt_of_le hk h0.size) (Nat.lt_of_lt_of_le hk hB)⟩

set_option maxRecDepth 100000 in
set_option maxHeartbeats 1000000 in
theorem eqInt64SS_same (a b : Option Addr) (n c c' : Nat) (zss : List (List Int)) (w : World) (ha : RdGr w a n zss) (hb : RdGr w b n zss) :
    Calls Tryd.prog 11 #[.slice a n c, .slice b n c'] w fun e w' => e = .returned (.bool true) ∧ Ext w w' := by
  have hm := ha.le
  have hln := ha.len
  go_enter Tryd.func11, Tryd.ntmps11
  go_wp2
  go_loopw [5] (fun i wr => ∃ k : Nat, k ≤ n ∧ i = .int .i64 k ∧ Ext w wr) (fun i _ => n - (intOf i).toNat)
  case atStart => exact ⟨0, Nat.zero_le _, rfl, Ext.refl _⟩
  case round =>
    obtain ⟨k, hk, rfl, hx⟩ := hrel
    by_cases hlt : k < n
    · obtain ⟨b1, o1, rfl, hbl1, hA⟩ := (ha.ext hx).at (by omega)
      obtain ⟨b2, o2, rfl, hbl2, hB⟩ := (hb.ext hx).at (by omega)
      obtain ⟨p1, q1, hc1, hr1⟩ := hA k _ (List.getElem?_eq_getElem (by omega))
      obtain ⟨p2, q2, hc2, hr2⟩ := hB k _ (List.getElem?_eq_getElem (by omega))
      have HR := Lib.hid (And.intro hr1 hr2)
      clear hA hB hr1 hr2
      have hki : (k : Int) < n := by omega
      go_wp2
      refine wp_region_held_drew (S := Ext wr) (by kernel_rfl) (Ext.refl _).drew (fun hHeld => ?_)
      generalize hwd : World.drew _ = wd at hHeld ⊢
      clear hwd
      refine takeYesH 0 17 ?v1 rfl rfl (by kernel_rfl) (by kernel_rfl) (by kernel_rfl) (fun _ _ _ _ h => h) (by kernel_rfl) hHeld ?y1 ?r1
      case y1 => intro wq hq; go_simp; first | done | with_reducible rfl
      simp only [Act.put, List.setIfInBounds_toArray, List.set_cons_zero, List.set_cons_succ]
      refine takeYesH 1 18 ?v2 rfl rfl (by kernel_rfl) (by kernel_rfl) (by kernel_rfl) (fun _ _ _ _ h => h) (by kernel_rfl) hHeld ?y2 ?r2
      case y2 => intro wq hq; go_simp; first | done | with_reducible rfl
      simp only [Act.put, List.setIfInBounds_toArray, List.set_cons_zero, List.set_cons_succ]
      refine takeYesH 2 19 ?v3 rfl rfl (by kernel_rfl) (by kernel_rfl) (by kernel_rfl) (fun _ _ _ _ h => h) (by kernel_rfl) hHeld ?y3 ?r3
      case y3 => intro wq hq; go_simp; first | done | with_reducible rfl
      simp only [Act.put, List.setIfInBounds_toArray, List.set_cons_zero, List.set_cons_succ]
      refine takeYesH 3 20 ?v4 rfl rfl (by kernel_rfl) (by kernel_rfl) (by kernel_rfl) (fun _ _ _ _ h => h) (by kernel_rfl) hHeld ?y4 ?r4
      case y4 =>
        intro wq hq
        have z1 := (Below.cell hq (p := ⟨b1, o1 + k, none⟩) hbl1).trans hc1
        have z2 := (Below.cell hq (p := ⟨b2, o2 + k, none⟩) hbl2).trans hc2
        go_simp
        first | done | with_reducible rfl
      simp only [Act.put, List.setIfInBounds_toArray, List.set_cons_zero, List.set_cons_succ]
      refine takeYesH 4 21 ?v5 rfl rfl (by kernel_rfl) (by kernel_rfl) (by kernel_rfl) (fun _ _ _ _ h => h) (by kernel_rfl) hHeld ?y5 ?r5
      case y5 => intro wq hq; go_simp; first | done | with_reducible rfl
      simp only [Act.put, List.setIfInBounds_toArray, List.set_cons_zero, List.set_cons_succ]
      refine takeYesH 5 22 ?v6 rfl rfl (by kernel_rfl) (by kernel_rfl) (by kernel_rfl) (fun _ _ _ _ h => h) (by kernel_rfl) hHeld ?y6 ?r6
      case y6 => intro wq hq; go_simp; first | done | with_reducible rfl
      simp only [Act.put, List.setIfInBounds_toArray, List.set_cons_zero, List.set_cons_succ]
      refine takeYesH 6 23 ?v7 rfl rfl (by kernel_rfl) (by kernel_rfl) (by kernel_rfl) (fun _ _ _ _ h => h) (by kernel_rfl) hHeld ?y7 ?r7
      case y7 => intro wq hq; go_simp; first | done | with_reducible rfl
      simp only [Act.put, List.setIfInBounds_toArray, List.set_cons_zero, List.set_cons_succ]
      refine takeYesH 7 24 ?v8 rfl rfl (by kernel_rfl) (by kernel_rfl) (by kernel_rfl) (fun _ _ _ _ h => h) (by kernel_rfl) hHeld ?y8 ?r8
      case y8 =>
        intro wq hq
        have z1 := (Below.cell hq (p := ⟨b1, o1 + k, none⟩) hbl1).trans hc1
        have z2 := (Below.cell hq (p := ⟨b2, o2 + k, none⟩) hbl2).trans hc2
        go_simp
        first | done | with_reducible rfl
      simp only [Act.put, List.setIfInBounds_toArray, List.set_cons_zero, List.set_cons_succ]
      refine wpAnyH_ready (rs := [8]) (by kernel_rfl) (by simp) ?_
      refine AllReadyH.cons rfl (fun K hK => ?_) AllReadyH.nil
      go_simp
      refine (eqInt64S_same _ _ _ _ _ _ _ (HR.out.1.ext hHeld) (HR.out.2.ext hHeld)).mono ?_
      rintro e w1 ⟨rfl, hs⟩
      go_wp2_with fail
      refine hK.out _ _ (hHeld.trans hs.ext) (fun hHeld => ?_)
      clear hK K
      try simp only [Act.put, List.setIfInBounds_toArray, List.set_cons_zero, List.set_cons_succ]
      refine takeYesH 9 26 ?v9 rfl rfl (by kernel_rfl) (by kernel_rfl) (by kernel_rfl) (fun _ _ _ _ h => h) (by kernel_rfl) hHeld ?y9 ?r9
      case y9 => intro wq hq; go_simp; first | done | with_reducible rfl
      simp only [Act.put, List.setIfInBounds_toArray, List.set_cons_zero, List.set_cons_succ]
      refine wpAnyH_done (by kernel_rfl) ?_ _
      go_wp2
      refine ⟨⟨k + 1, by omega, by go_num, hx.trans hHeld⟩, ?_⟩
      simp only [intOf]
      omega
    · obtain rfl : k = n := by omega
      go_wp2
      go_ret
      exact ⟨rfl, hx⟩

def totG (gs : List Gr) : Nat := (gs.map fun q => q.zs.length).sum
def markGr : Int → List Gr → List Gr
  | _, [] => []
  | k, q :: r => ⟨q.at_, q.cp, marks k q.zs.length⟩ :: markGr (k + q.zs.length) r
theorem markGr_len : ∀ (k : Int) (gs : List Gr), (markGr k gs).length = gs.length
  | _, [] => rfl
  | k, q :: r => by rw [markGr, List.length_cons, markGr_len, List.length_cons]
theorem totG_snoc (gs : List Gr) (q : Gr) : totG (gs ++ [q]) = totG gs + q.zs.length := by simp [totG]
theorem markGr_snoc : ∀ (k : Int) (gs : List Gr) (q : Gr), markGr k (gs ++ [q]) = markGr k gs ++ [⟨q.at_, q.cp, marks (k + totG gs) q.zs.length⟩]
  | k, [], q => by simp [markGr, totG]
  | k, p :: r, q => by
    have e : k + totG (p :: r) = k + p.zs.length + totG r := by simp only [totG, List.map_cons, List.sum_cons]; omega
    rw [List.cons_append, markGr, markGr_snoc, markGr, List.cons_append, e]
theorem totG_take (gs : List Gr) (t : Nat) : totG (gs.take t) ≤ totG gs := by
  have : totG gs = totG (gs.take t) + totG (gs.drop t) := by
    conv => lhs; rw [← List.take_append_drop t gs]
    rw [totG, List.map_append, List.sum_append]; rfl
  omega
/-- One group is marked. -/
theorem OwnGr.mark {w w' : World} {B n c t : Nat} {a : Option Addr} {gs : List Gr} {q : Gr} {zs : List Int} (h : OwnGr w B a n c gs) (hk : gs[t]? = some q) (hz : zs.length = q.zs.length)
    (ho : OwnI w' B q.at_ q.zs.length q.cp zs) (hw : Wrote w w' q.at_) : OwnGr w' B a n c (gs.set t ⟨q.at_, q.cp, zs⟩) := by
  have hq := List.mem_of_getElem? hk
  have hkl : t < gs.length := (List.getElem?_eq_some_iff.1 hk).1
  have hkq : gs[t] = q := (List.getElem?_eq_some_iff.1 hk).2
  have hg : w.grownBy w' (valGr q).ownBlock := by
    refine ⟨hw.os, hw.tape, hw.output, hw.size, fun j hj hr => hw.block j hj fun g hg e => ?_⟩
    rcases own_addr (h.each q hq).1 with e1 | ⟨b, e1⟩
    · rw [e1] at hg; cases hg
    · rw [e1] at hg; cases hg
      apply hr
      rw [valGr, e1]
      simp [Value.ownBlock, e]
  have hv : valGr ⟨q.at_, q.cp, zs⟩ = valGr q := by simp [valGr, hz]
  have hcells : (gs.set t ⟨q.at_, q.cp, zs⟩).flatMap layGr.cells = gs.flatMap layGr.cells := by
    have : ∀ (gs : List Gr) (t : Nat), gs[t]? = some q → (gs.set t ⟨q.at_, q.cp, zs⟩).flatMap layGr.cells = gs.flatMap layGr.cells := by
      intro gs
      induction gs with
      | nil => intro t h; simp at h
      | cons p r ih =>
        intro t h
        cases t with
        | zero =>
          obtain rfl : p = q := by simpa using h
          simp only [List.set_cons_zero, List.flatMap_cons]
          rw [show layGr.cells ⟨p.at_, p.cp, zs⟩ = layGr.cells p by simp only [layGr]; rw [hv]]
        | succ t =>
          rw [List.set_cons_succ, List.flatMap_cons, List.flatMap_cons, ih t (by simpa using h)]
    exact this gs t hk
  have hfar := List.pairwise_iff_getElem.1 h.far
  refine ⟨⟨?_, h.row.2⟩, fun p hp => ?_, pair_set hk h.far (fun y hy k hk2 => hy k (by rw [← hv]; exact hk2)) (fun y hy k hk2 => by rw [hv]; exact hy k hk2)⟩
  · rw [hcells]
    exact own_grown h.row.1 hg fun j hj e => own_apart h.row.1 (h.each q hq).1 kind_ne hj e.symm
  · obtain ⟨j, hj, e⟩ := List.getElem_of_mem hp
    rw [List.length_set] at hj
    rw [List.getElem_set] at e
    by_cases hjk : t = j
    · rw [if_pos hjk] at e
      rw [← e]
      simp only [hz]
      exact ho
    · rw [if_neg hjk] at e
      have hpm : p ∈ gs := by rw [← e]; exact List.getElem_mem hj
      refine ⟨own_grown (h.each p hpm).1 hg fun i hi e2 => ?_, (h.each p hpm).2⟩
      rcases Nat.lt_or_gt_of_ne hjk with hlt | hlt
      · have := hfar t j hkl hj hlt i (by rw [hkq]; exact e2.symm)
        rw [e] at this
        exact this hi
      · have := hfar j t hj hkl hlt i (by rw [e]; exact hi)
        rw [hkq] at this
        exact this e2.symm
theorem mark_set {gs : List Gr} {k : Int} {t : Nat} {q : Gr} (hk : gs[t]? = some q) :
    (markGr k (gs.take t) ++ gs.drop t).set t ⟨q.at_, q.cp, marks (k + totG (gs.take t)) q.zs.length⟩ = markGr k (gs.take (t + 1)) ++ gs.drop (t + 1) ∧ (markGr k (gs.take t) ++ gs.drop t)[t]? = some q ∧ totG (gs.take (t + 1)) = totG (gs.take t) + q.zs.length := by
  have hkl : t < gs.length := (List.getElem?_eq_some_iff.1 hk).1
  have hkq : gs[t] = q := (List.getElem?_eq_some_iff.1 hk).2
  have e : gs.take (t + 1) = gs.take t ++ [q] := by rw [List.take_succ_eq_append_getElem hkl, hkq]
  have hl : (markGr k (gs.take t)).length = t := by rw [markGr_len, List.length_take]; omega
  have ed : gs.drop t = q :: gs.drop (t + 1) := by rw [List.drop_eq_getElem_cons hkl, hkq]
  refine ⟨?_, ?_, by rw [e, totG_snoc]⟩
  · rw [e, markGr_snoc, ed, List.set_append_right _ _ (by omega), hl, Nat.sub_self, List.set_cons_zero, List.append_assoc]; rfl
  · rw [List.getElem?_append_right (by omega), hl, Nat.sub_self, ed]; rfl

set_option maxRecDepth 100000 in
set_option maxHeartbeats 1000000 in
theorem markInt64SS_any (B : Nat) (a : Option Addr) (n c : Nat) (k : Int) (gs : List Gr) (w : World) (hr : OwnGr w B a n c gs) (hk0 : 0 ≤ k) (hk1 : k ≤ 1048576) (hn : totG gs ≤ 1048576) :
    Calls Tryd.prog 16 #[.slice a n c, .int .i64 k] w fun e w' => e = .returned (.int .i64 (k + totG gs)) ∧ OwnGr w' B a n c (markGr k gs) ∧ Above w w' B := by
  have hm := hr.row.2
  have hln := hr.row.rd.len
  go_enter Tryd.func16, Tryd.ntmps16
  go_wp2
  go_loopw [1, 5] (fun u i wr => ∃ t : Nat, t ≤ n ∧ i = .int .i64 t ∧ u = .int .i64 (k + totG (gs.take t)) ∧ OwnGr wr B a n c (markGr k (gs.take t) ++ gs.drop t) ∧ Above w wr B) (fun _ i _ => n - (intOf i).toNat)
  case atStart => exact ⟨0, Nat.zero_le _, rfl, by simp [totG], by simpa [markGr] using hr, Above.refl _ _⟩
  case round =>
    obtain ⟨t, ht, rfl, rfl, ho, hw⟩ := hrel
    have htt := totG_take gs t
    by_cases hlt : t < n
    · have hq : gs[t]? = some gs[t] := List.getElem?_eq_getElem (by omega)
      obtain ⟨ms, mg, mt⟩ := mark_set (k := k) hq
      obtain ⟨b, o, rfl, hb, hc⟩ := ho.row.rd.at (by omega)
      have hct : wr.cell? ⟨b, o + t, none⟩ = some (.slice gs[t].at_ gs[t].zs.length gs[t].cp) := by
        have := hc t _ mg 0 (valGr gs[t]) rfl
        simpa [layGr, valGr] using this
      have hown := ho.each _ (List.mem_of_getElem? mg)
      have HO := Lib.hid (And.intro ho (And.intro hw hown))
      have hti : (t : Int) < n := by omega
      clear hc ho hw hown
      go_wp2_with fail
      refine (markInt64S_any B _ _ _ _ _ _ HO.out.2.2 (by omega) (by omega)).mono ?_
      rintro e w1 ⟨rfl, ho1, hw1⟩
      have hnew := HO.out.1.mark mg (marks_len _ _) ho1 hw1
      rw [ms] at hnew
      have HN := Lib.hid (And.intro hnew (HO.out.2.1.wrote HO.out.2.2.1 hw1))
      clear hnew ho1 hw1
      go_wp2
      go_roundw
      case rel => exact ⟨t + 1, by omega, by go_num, by rw [mt]; simp; omega, HN.out.1, HN.out.2⟩
      case measure => simp [intOf]; omega
    · obtain rfl : t = n := by omega
      have HO := Lib.hid (And.intro ho hw)
      clear ho hw
      have e1 := Lib.hid (show gs.take t = gs from List.take_of_length_le (by omega))
      go_wp2
      go_ret
      refine ⟨ret_int (by rw [e1.out]), ?_, HO.out.2⟩
      have h := HO.out.1
      rwa [e1.out, List.drop_of_length_le (by omega), List.append_nil] at h

set_option maxRecDepth 100000 in
set_option maxHeartbeats 1000000 in
theorem heldInt64SS_marks (B : Nat) (a : Option Addr) (n c : Nat) (k : Int) (gs : List Gr) (w : World) (hr : OwnGr w B a n c (markGr k gs)) (hk0 : 0 ≤ k) (hk1 : k ≤ 1048576) (hn : totG gs ≤ 1048576) :
    Calls Tryd.prog 17 #[.slice a n c, .int .i64 k] w fun e w' => e = .returned (.int .i64 (k + totG gs)) ∧ w = w' := by
  have hm := hr.row.2
  have hln := hr.row.rd.len
  rw [markGr_len] at hln
  go_enter Tryd.func17, Tryd.ntmps17
  go_wp2
  go_loop [1, 5] (fun u i => ∃ t : Nat, t ≤ n ∧ i = .int .i64 t ∧ u = .int .i64 (k + totG (gs.take t))) (fun _ i => n - (intOf i).toNat)
  case atStart => exact ⟨0, Nat.zero_le _, rfl, by simp [totG]⟩
  case round =>
    obtain ⟨t, ht, rfl, rfl⟩ := hrel
    have htt := totG_take gs t
    by_cases hlt : t < n
    · have hq : gs[t]? = some gs[t] := List.getElem?_eq_getElem (by omega)
      obtain ⟨ms, mg, mt⟩ := mark_set (k := k) hq
      have hgt : (markGr k gs)[t]? = some ⟨gs[t].at_, gs[t].cp, marks (k + totG (gs.take t)) gs[t].zs.length⟩ := by
        have e := List.take_append_drop (t + 1) gs
        have e2 : gs.take (t + 1) = gs.take t ++ [gs[t]] := List.take_succ_eq_append_getElem (by omega)
        have key : ∀ (k : Int) (xs ys : List Gr), markGr k (xs ++ ys) = markGr k xs ++ markGr (k + totG xs) ys := by
          intro k xs
          induction xs generalizing k with
          | nil => intro ys; simp [markGr, totG]
          | cons p r ih =>
            intro ys
            rw [List.cons_append, markGr, ih, markGr, List.cons_append]
            rw [show k + totG (p :: r) = k + p.zs.length + totG r by simp only [totG, List.map_cons, List.sum_cons]; omega]
        have h0 := key k (gs.take (t + 1)) (gs.drop (t + 1))
        rw [e, e2, markGr_snoc] at h0
        rw [h0]
        have hl : (markGr k (gs.take t)).length = t := by rw [markGr_len, List.length_take]; omega
        rw [List.append_assoc, List.getElem?_append_right (by omega), hl, Nat.sub_self]
        rfl
      obtain ⟨b, o, rfl, hb, hc⟩ := hr.row.rd.at (by omega)
      have hct : w.cell? ⟨b, o + t, none⟩ = some (.slice gs[t].at_ gs[t].zs.length gs[t].cp) := by
        have := hc t _ hgt 0 _ rfl
        simpa [layGr, valGr, marks_len] using this
      have hown := hr.each _ (List.mem_of_getElem? hgt)
      have hrd : RdI w gs[t].at_ gs[t].zs.length (marks (k + totG (gs.take t)) gs[t].zs.length) := by simpa [marks_len] using hown.rd
      have HO := Lib.hid hrd
      have hti : (t : Int) < n := by omega
      have hlow : totG (gs.take (t + 1)) ≤ totG gs := totG_take gs (t + 1)
      have h0 : 0 ≤ k + totG (gs.take t) + gs[t].zs.length := by omega
      clear hc hown hrd ms mg hgt
      go_wp2_with fail
      refine (heldInt64S_marks _ _ _ _ _ HO.out (by omega) (by omega)).mono ?_
      rintro e w1 ⟨rfl, rfl⟩
      go_wp2
      go_round
      case rel => exact ⟨t + 1, by omega, by go_num, by rw [mt]; simp; omega⟩
      case measure => simp [intOf]; omega
    · obtain rfl : t = n := by omega
      have e1 := Lib.hid (show gs.take t = gs from List.take_of_length_le (by omega))
      go_wp2
      go_ret
      exact ⟨ret_int (by rw [e1.out]), rfl⟩

end Go.Proofs.YtfglmoedicijkaaDoor

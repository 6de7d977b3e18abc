/-
  GroupsBySound on both sides.
-/
import Derived.Test.YtfglmoedicijkaaGreatDoorGG
import Derived.Test.YtfglmoedicijkaaGreatDoorSDL
import Derived.Test.YtfglmoedicijkaaGreatDoorTK
import Derived.Deep.RegionHeld3
namespace Go.Proofs.YtfglmoedicijkaaGreatDoor
open Go.RowKit

theorem box_gb {w w1 : World} {cs : Array Value} {t : TypeId} (h : Ext (w.alloc (.cells cs t)) w1) (k : Nat) : w1.cell? ⟨w.heap.size, k, none⟩ = cs[k]? :=
  (Below.cell h (p := ⟨w.heap.size, k, none⟩) (by simp)).trans (World.cell?_alloc_at _ _ _ _ rfl)
/-- A box that holds a value. -/
def HoldsV (w : World) (b : Nat) (v : Value) : Prop := b < w.heap.size ∧ w.cell? ⟨b, 0, none⟩ = some v
theorem HoldsV.ext {w w' : World} {b : Nat} {v : Value} (h : HoldsV w b v) (x : Ext w w') : HoldsV w' b v := ⟨Nat.lt_of_lt_of_le h.1 x.size, (Below.cell x (p := ⟨b, 0, none⟩) h.1).trans h.2⟩
theorem Tryz.info_sliceI : (Tryz.prog.info? 24).map (fun i => (i.zero, i.size, i.bytes)) = some (some (.slice none 0 0), 1, 24) := by kernel_rfl

set_option maxRecDepth 100000 in
set_option maxHeartbeats 1000000 in
theorem gbClosure_any (q : Gr) (a : Option Addr) (n c : Nat) (a2 : Option Addr) (m c2 : Nat) (s : ByteArray) (t : List Int) (ls : List ByteArray) (i : Nat) (bt bl bw : Nat) (w : World) (hr : RdI w a n t) (hr2 : RdS w a2 m ls)
    (hz : soundB t = true) (hi : i < m) (hwi : wordB (nthS ls i) = true) (hws : wordB s = true) (hq : RdI w q.at_ q.zs.length q.zs) (hq0 : q.zs[0]? = some (i : Int)) (h1 : HoldsV w bt (.slice a n c)) (h2 : HoldsV w bl (.slice a2 m c2)) (h3 : HoldsV w bw (.string s)) :
    Calls Tryz.prog 49 #[valGr q, .pointer (some ⟨bt, 0, none⟩), .pointer (some ⟨bl, 0, none⟩), .pointer (some ⟨bw, 0, none⟩)] w fun e w' => e = .returned (.bool ((soundT t (nthS ls i)).toList == (soundT t s).toList)) ∧ Ext w w' := by
  have hm := hr2.le
  have hlen : 0 < q.zs.length := (List.getElem?_eq_some_iff.1 hq0).1
  have hleni : (0 : Int) < q.zs.length := by omega
  obtain ⟨gb, go_, hga, hgb, hgc⟩ := hq.at hlen
  have hc4 := hgc 0 hlen
  rw [show nth q.zs 0 = (i : Int) by rw [nth_eq hlen]; exact Option.some.inj ((List.getElem?_eq_getElem hlen).symm.trans hq0), Nat.add_zero] at hc4
  obtain ⟨b, o, rfl, hbl, hcl⟩ := hr2.at (by omega)
  have hck := hcl i hi
  have hii : (i : Int) < m := by omega
  rw [valGr, hga]
  have T := Lib.hid (And.intro h1 (And.intro h2 h3))
  have HZ := Lib.hid (And.intro hz (And.intro hwi hws))
  clear h1 h2 h3 hz hwi hws hcl hgc hq
  go_enter Tryz.func49, Tryz.ntmps49
  go_wp2
  refine wp_region_held_drew (S := Ext _) (by kernel_rfl) (Ext.refl _).drew (fun hHeld => ?_)
  generalize hwd : World.drew _ = wd at hHeld ⊢
  clear hwd
  refine takeYesH 0 6 ?v1 rfl rfl (by kernel_rfl) (by kernel_rfl) (by kernel_rfl) (fun _ _ _ _ h => h) (by kernel_rfl) hHeld ?y1 ?r1
  case y1 =>
    intro wq hq
    have z1 := (T.out.1.ext hq).2
    have z2 := (T.out.2.1.ext hq).2
    have z3 := (T.out.2.2.ext hq).2
    have z4 := (Below.cell hq (p := ⟨gb, go_, none⟩) hgb).trans hc4
    have z5 := (Below.cell hq (p := ⟨b, o + i, none⟩) hbl).trans hck
    go_simp
    first | done | with_reducible rfl
  simp only [Act.put, List.setIfInBounds_toArray, List.set_cons_zero, List.set_cons_succ]
  refine takeYesH 1 7 ?v2 rfl rfl (by kernel_rfl) (by kernel_rfl) (by kernel_rfl) (fun _ _ _ _ h => h) (by kernel_rfl) hHeld ?y2 ?r2
  case y2 =>
    intro wq hq
    have z1 := (T.out.1.ext hq).2
    have z2 := (T.out.2.1.ext hq).2
    have z3 := (T.out.2.2.ext hq).2
    have z4 := (Below.cell hq (p := ⟨gb, go_, none⟩) hgb).trans hc4
    have z5 := (Below.cell hq (p := ⟨b, o + i, none⟩) hbl).trans hck
    go_simp
    first | done | with_reducible rfl
  simp only [Act.put, List.setIfInBounds_toArray, List.set_cons_zero, List.set_cons_succ]
  refine takeYesH 2 8 ?v3 rfl rfl (by kernel_rfl) (by kernel_rfl) (by kernel_rfl) (fun _ _ _ _ h => h) (by kernel_rfl) hHeld ?y3 ?r3
  case y3 => intro wq hq; go_simp; first | done | with_reducible rfl
  simp only [Act.put, List.setIfInBounds_toArray, List.set_cons_zero, List.set_cons_succ]
  refine takeYesH 3 9 ?v4 rfl rfl (by kernel_rfl) (by kernel_rfl) (by kernel_rfl) (fun _ _ _ _ h => h) (by kernel_rfl) hHeld ?y4 ?r4
  case y4 => intro wq hq; go_simp; first | done | with_reducible rfl
  simp only [Act.put, List.setIfInBounds_toArray, List.set_cons_zero, List.set_cons_succ]
  refine takeYesH 4 10 ?v5 rfl rfl (by kernel_rfl) (by kernel_rfl) (by kernel_rfl) (fun _ _ _ _ h => h) (by kernel_rfl) hHeld ?y5 ?r5
  case y5 =>
    intro wq hq
    have z1 := (T.out.1.ext hq).2
    have z2 := (T.out.2.1.ext hq).2
    have z3 := (T.out.2.2.ext hq).2
    have z4 := (Below.cell hq (p := ⟨gb, go_, none⟩) hgb).trans hc4
    have z5 := (Below.cell hq (p := ⟨b, o + i, none⟩) hbl).trans hck
    go_simp
    first | done | with_reducible rfl
  simp only [Act.put, List.setIfInBounds_toArray, List.set_cons_zero, List.set_cons_succ]
  refine takeYesH 5 11 ?v6 rfl rfl (by kernel_rfl) (by kernel_rfl) (by kernel_rfl) (fun _ _ _ _ h => h) (by kernel_rfl) hHeld ?y6 ?r6
  case y6 => intro wq hq; go_simp; first | done | with_reducible rfl
  simp only [Act.put, List.setIfInBounds_toArray, List.set_cons_zero, List.set_cons_succ]
  refine takeYesH 6 12 ?v7 rfl rfl (by kernel_rfl) (by kernel_rfl) (by kernel_rfl) (fun _ _ _ _ h => h) (by kernel_rfl) hHeld ?y7 ?r7
  case y7 =>
    intro wq hq
    have z1 := (T.out.1.ext hq).2
    have z2 := (T.out.2.1.ext hq).2
    have z3 := (T.out.2.2.ext hq).2
    have z4 := (Below.cell hq (p := ⟨gb, go_, none⟩) hgb).trans hc4
    have z5 := (Below.cell hq (p := ⟨b, o + i, none⟩) hbl).trans hck
    go_simp
    first | done | with_reducible rfl
  simp only [Act.put, List.setIfInBounds_toArray, List.set_cons_zero, List.set_cons_succ]
  refine takeYesH 8 14 ?v8 rfl rfl (by kernel_rfl) (by kernel_rfl) (by kernel_rfl) (fun _ _ _ _ h => h) (by kernel_rfl) hHeld ?y8 ?r8
  case y8 =>
    intro wq hq
    have z1 := (T.out.1.ext hq).2
    have z2 := (T.out.2.1.ext hq).2
    have z3 := (T.out.2.2.ext hq).2
    have z4 := (Below.cell hq (p := ⟨gb, go_, none⟩) hgb).trans hc4
    have z5 := (Below.cell hq (p := ⟨b, o + i, none⟩) hbl).trans hck
    go_simp
    first | done | with_reducible rfl
  simp only [Act.put, List.setIfInBounds_toArray, List.set_cons_zero, List.set_cons_succ]
  refine takeYesH 9 15 ?v9 rfl rfl (by kernel_rfl) (by kernel_rfl) (by kernel_rfl) (fun _ _ _ _ h => h) (by kernel_rfl) hHeld ?y9 ?r9
  case y9 =>
    intro wq hq
    have z1 := (T.out.1.ext hq).2
    have z2 := (T.out.2.1.ext hq).2
    have z3 := (T.out.2.2.ext hq).2
    have z4 := (Below.cell hq (p := ⟨gb, go_, none⟩) hgb).trans hc4
    have z5 := (Below.cell hq (p := ⟨b, o + i, none⟩) hbl).trans hck
    go_simp
    first | done | with_reducible rfl
  simp only [Act.put, List.setIfInBounds_toArray, List.set_cons_zero, List.set_cons_succ]
  refine wpAnyH_ready (rs := [7]) (by kernel_rfl) (by simp) ?_
  refine AllReadyH.cons rfl (fun K hK => ?_) AllReadyH.nil
  go_simp
  refine (soundOf_any _ _ _ _ _ _ (hr.ext hHeld) HZ.out.1 HZ.out.2.1).mono ?_
  rintro e w1 ⟨rfl, e1⟩
  go_wp2_with fail
  refine hK.out _ _ (hHeld.trans e1) (fun hHeld => ?_)
  clear hK K
  try simp only [Act.put, List.setIfInBounds_toArray, List.set_cons_zero, List.set_cons_succ]
  refine wpAnyH_ready (rs := [10]) (by kernel_rfl) (by simp) ?_
  refine AllReadyH.cons rfl (fun K hK => ?_) AllReadyH.nil
  go_simp
  refine (soundOf_any _ _ _ _ _ _ (hr.ext hHeld) HZ.out.1 HZ.out.2.2).mono ?_
  rintro e w2 ⟨rfl, e2⟩
  go_wp2_with fail
  refine hK.out _ _ (hHeld.trans e2) (fun hHeld => ?_)
  clear hK K
  try simp only [Act.put, List.setIfInBounds_toArray, List.set_cons_zero, List.set_cons_succ]
  refine takeYesH 11 17 ?v10 rfl rfl (by kernel_rfl) (by kernel_rfl) (by kernel_rfl) (fun _ _ _ _ h => h) (by kernel_rfl) hHeld ?y10 ?r10
  case y10 => intro wq hq; go_simp; first | done | with_reducible rfl
  simp only [Act.put, List.setIfInBounds_toArray, List.set_cons_zero, List.set_cons_succ]
  refine takeYesH 12 5 ?v11 rfl rfl (by kernel_rfl) (by kernel_rfl) (by kernel_rfl) (fun _ _ _ _ h => h) (by kernel_rfl) hHeld ?y11 ?r11
  case y11 => intro wq hq; go_simp; first | done | with_reducible rfl
  simp only [Act.put, List.setIfInBounds_toArray, List.set_cons_zero, List.set_cons_succ]
  refine wpAnyH_done (by kernel_rfl) ?_ _
  go_wp2
  go_ret
  exact ⟨rfl, hHeld⟩

set_option maxRecDepth 100000 in
set_option maxHeartbeats 1000000 in
theorem gbIndex_any (a : Option Addr) (n c : Nat) (gs : List Gr) (p : Nat → Bool) (q0 q1 q2 : Addr) (w : World) (hr : RdG layGr w a n gs)
    (hk : ∀ w1, Ext w w1 → ∀ k q, gs[k]? = some q → Calls Tryz.prog 49 #[valGr q, .pointer (some q0), .pointer (some q1), .pointer (some q2)] w1 fun e w2 => e = .returned (.bool (p k)) ∧ Ext w1 w2) :
    Calls Tryz.prog 48 #[.slice a n c, .func (.func 49) #[] #[.pointer (some q0), .pointer (some q1), .pointer (some q2)]] w fun e w' => ∃ z : Int, e = .returned (.int .i64 z) ∧ ((z = -1 ∧ ∀ j, j < n → p j = false) ∨ ∃ k : Nat, z = k ∧ k < n ∧ p k = true) ∧ Ext w w' := by
  have hm := hr.le
  have hln := hr.len
  have HK := Lib.hid hk
  clear hk
  go_enter Tryz.func48, Tryz.ntmps48
  go_wp2
  go_loopw [8] (fun i wr => ∃ k : Nat, k ≤ n ∧ i = .int .i64 k ∧ (∀ j, j < k → p j = false) ∧ Ext w wr) (fun i _ => n - (intOf i).toNat)
  case atStart => exact ⟨0, Nat.zero_le _, rfl, fun j h => by omega, Ext.refl _⟩
  case round =>
    obtain ⟨k, hk, rfl, hall, hx⟩ := hrel
    have HA := Lib.hid hall
    clear hall
    by_cases hlt : k < n
    · obtain ⟨b, o, rfl, hbl, hA⟩ := (hr.ext hx).at (by omega)
      have hget := List.getElem?_eq_getElem (l := gs) (i := k) (by omega)
      have hc0 : wr.cell? ⟨b, o + k, none⟩ = some (valGr gs[k]) := by
        have := hA k _ hget 0 _ rfl
        simpa [layGr] using this
      rw [valGr] at hc0
      clear hA
      have hki : (k : Int) < n := by omega
      have HG := Lib.hid hget
      clear hget
      cases hp : p k
      · have HP := Lib.hid hp
        clear hp
        go_wp2_with (first | (go_at_call 49; refine (HK.out _ hx k _ HG.out).mono ?_; rintro e w1 ⟨rfl, hx1⟩; rw [HP.out]))
        go_roundw
        case rel =>
          refine ⟨k + 1, by omega, by go_num, fun j hjk => ?_, hx.trans hx1⟩
          by_cases e : j = k
          · subst e; exact HP.out
          · exact HA.out j (by omega)
        case measure => simp [intOf]; omega
      · have HP := Lib.hid hp
        clear hp
        go_wp2_with (first | (go_at_call 49; refine (HK.out _ hx k _ HG.out).mono ?_; rintro e w1 ⟨rfl, hx1⟩; rw [HP.out]))
        go_ret
        exact ⟨_, rfl, .inr ⟨k, rfl, hlt, HP.out⟩, hx.trans hx1⟩
    · obtain rfl : k = n := by omega
      go_wp2
      go_ret
      exact ⟨_, rfl, .inl ⟨rfl, HA.out⟩, hx⟩

/-- Groups handed back, and a code. -/
def RetGC (w : World) (zss : List (List Int)) (code : Int) (e : Ending) (w' : World) : Prop := ∃ a c gs, e = .returned (.tuple #[.slice a gs.length c, .int .i64 code]) ∧ gzs gs = zss ∧ OwnGr w' w.heap.size a gs.length c gs ∧ Ext w w'
theorem RetGC.nil {w w' : World} {code : Int} (h : Ext w w') : RetGC w [] code (.returned (.tuple #[.slice none 0 0, .int .i64 code])) w' := ⟨none, 0, [], rfl, rfl, OwnGr.isNil _ _, h⟩
theorem gbL_no {t : List Int} {ls : List ByteArray} {k : Int} (h : codeS t ls ⟨#[97]⟩ = k) (hk : k ≠ 0) : gbL t ls = [] := by rw [gbL, if_neg (by rw [h]; exact hk)]
theorem gbL_yes {t : List Int} {ls : List ByteArray} (h : codeS t ls ⟨#[97]⟩ = 0) : gbL t ls = grps (gbF t ls) ls.length ls.length := by rw [gbL, if_pos h]
/-- The q-th group takes the k-th word. -/
def gbP (t : List Int) (ls : List ByteArray) (k q : Nat) : Bool := gbF t ls ((firstsG (gbF t ls) k).getD q 0) == gbF t ls k
theorem gbP_at {t : List Int} {ls : List ByteArray} {k q : Nat} (h : q < (firstsG (gbF t ls) k).length) : gbP t ls k q = (gbF t ls (firstsG (gbF t ls) k)[q] == gbF t ls k) := by
  rw [gbP]
  simp [h]
theorem word_a : wordB ⟨#[97]⟩ = true := by decide
/-- The head of a group is its first. -/
theorem gz_head {β : Type} [DecidableEq β] {f : Nat → β} {k : Nat} {gs : List Gr} (h : gzs gs = grps f k k) {j : Nat} {q : Gr} (hq : gs[j]? = some q) : ∃ (hj : j < (firstsG f k).length), q.zs[0]? = some (((firstsG f k)[j] : Nat) : Int) ∧ (firstsG f k)[j] < k ∧ q.zs = likeG f k (firstsG f k)[j] ∧ q.zs.length ≤ k := by
  have hl : gs.length = (firstsG f k).length := by rw [← gzs_len, h, grps_len]
  have hlt := (List.getElem?_eq_some_iff.1 hq).1
  have hj : j < (firstsG f k).length := by omega
  have e : q.zs = likeG f k (firstsG f k)[j] := by
    have := congrArg (fun l => l[j]?) h
    simp only [grps_get hj] at this
    rw [gzs, List.getElem?_map, hq] at this
    simpa using this
  obtain ⟨m1, m2⟩ := firsts_mem.1 (List.getElem_mem hj)
  obtain ⟨l, hl⟩ := like_head m1 m2
  exact ⟨hj, by rw [e, hl]; rfl, m1, e, by rw [e]; exact like_len _ _⟩
theorem gr_block {w : World} {B n c : Nat} {a : Option Addr} {zs : List Int} (h : OwnI w B a n c zs) (hz : zs ≠ []) : ∃ g, a = some ⟨g, 0, none⟩ ∧ B ≤ g ∧ (Value.slice a n c).ownBlock = some g := by
  rcases own_addr h.1 with rfl | ⟨g, rfl⟩
  · exact absurd h.rd.isNone.2 hz
  · exact ⟨g, rfl, (h.1.lt g rfl).1, rfl⟩
theorem gr_far {w : World} {B k : Nat} {gs : List Gr} (h : ∀ p ∈ gs, OwnI w B p.at_ p.zs.length p.cp p.zs) (hk : w.heap.size ≤ k) : ∀ p ∈ gs, (valGr p).ownBlock ≠ some k := fun p hp e => by
  have := ((h p hp).1.lt k e).2
  omega
theorem gz_snoc (gs : List Gr) (q : Gr) : gzs (gs ++ [q]) = gzs gs ++ [q.zs] := by simp [gzs]
theorem gz_set (gs : List Gr) (k : Nat) (q : Gr) : gzs (gs.set k q) = (gzs gs).set k q.zs := by simp [gzs, List.map_set]
theorem gz_num {β : Type} [DecidableEq β] {f : Nat → β} {k n : Nat} {gs : List Gr} (h : gzs gs = grps f k n) : gs.length ≤ k := by
  rw [← gzs_len, h, grps_len]; exact firsts_len k

set_option maxRecDepth 100000 in
set_option maxHeartbeats 4000000 in
theorem implGroupsBySound_any (a : Option Addr) (n c : Nat) (a2 : Option Addr) (m c2 : Nat) (t : List Int) (ls : List ByteArray) (w : World) (hr : RdI w a n t) (hr2 : RdS w a2 m ls) :
    Calls Tryz.prog 12 #[.slice a n c, .slice a2 m c2] w (RetGC w (gbL t ls) (codeS t ls ⟨#[97]⟩)) := by
  have hm := hr2.le
  have hln2 := hr2.len
  have xb := ((Ext.refl w).alloc (.cells #[.slice a n c] 24)).alloc (.cells #[.slice a2 m c2] 29)
  have k1 : _ = some (Value.slice a n c) := box_gb ((Ext.refl (w.alloc (.cells #[.slice a n c] 24))).alloc (.cells #[.slice a2 m c2] 29)) 0
  have k2 : _ = some (Value.slice a2 m c2) := box_gb (Ext.refl ((w.alloc (.cells #[.slice a n c] 24)).alloc (.cells #[.slice a2 m c2] 29))) 0
  simp only [World.size_alloc] at k1 k2
  have HB := Lib.hid (And.intro (show HoldsV _ w.heap.size (.slice a n c) from ⟨by simp; omega, k1⟩) (show HoldsV _ (w.heap.size + 1) (.slice a2 m c2) from ⟨by simp, k2⟩))
  clear k1 k2
  cases h0 : soundB t
  · have hc := codeS_bad (ls := ls) (s := ⟨#[97]⟩) (.inl h0)
    have HZ := Lib.hid (And.intro h0 (And.intro hc (gbL_no hc (by decide))))
    clear h0 hc
    go_enter Tryz.func12, Tryz.ntmps12
    go_wp2_with (first | (go_at_call 22; refine (implIsSoundTable_any _ _ _ _ _ (hr.ext xb)).mono ?_; rintro e w' ⟨rfl, rfl⟩; rw [HZ.out.1]))
    go_ret2
    rw [HZ.out.2.1, HZ.out.2.2]
    exact RetGC.nil xb
  cases h2 : wordsB ls
  · have hc := codeS_bad (t := t) (s := ⟨#[97]⟩) (.inr (.inr h2))
    have HZ := Lib.hid (And.intro h0 (And.intro h2 (And.intro hc (gbL_no hc (by decide)))))
    clear h0 h2 hc
    have k2 := HB.out.2.2
    go_enter Tryz.func12, Tryz.ntmps12
    go_wp2_with (first | (go_at_call 22; refine (implIsSoundTable_any _ _ _ _ _ (hr.ext xb)).mono ?_; rintro e w' ⟨rfl, rfl⟩; rw [HZ.out.1]) | fail)
    refine (areWords_any _ _ _ _ _ (hr2.ext xb)).mono ?_
    rintro e w1 ⟨rfl, e1⟩
    rw [HZ.out.2.1]
    clear k2
    go_wp2
    go_ret2
    rw [HZ.out.2.2.1, HZ.out.2.2.2]
    exact RetGC.nil (xb.trans e1)
  by_cases h3 : ls.length ≤ 20
  · have hc := codeS_ok (s := ⟨#[97]⟩) h0 word_a h2 h3
    have HZ := Lib.hid (And.intro h0 (And.intro h2 (And.intro hc (gbL_yes hc))))
    have h3i : ¬ (20 : Int) < m := by omega
    clear h0 h2 hc
    have k2 := HB.out.2.2
    go_enter Tryz.func12, Tryz.ntmps12
    go_wp2_with (first | (go_at_call 22; refine (implIsSoundTable_any _ _ _ _ _ (hr.ext xb)).mono ?_; rintro e w' ⟨rfl, rfl⟩; rw [HZ.out.1]) | fail)
    refine (areWords_any _ _ _ _ _ (hr2.ext xb)).mono ?_
    rintro e w1 ⟨rfl, e1⟩
    rw [HZ.out.2.1]
    clear k2
    have H1 := Lib.hid (And.intro (HB.out.1.ext e1) (And.intro (HB.out.2.ext e1) (xb.trans e1)))
    have k2 := H1.out.2.1.2
    have hw1 := H1.out.2.2.size
    go_wp2
    clear k2
    go_loopw [6, 7, 8, 9, 25] (fun v _ _ _ i wr => ∃ (k : Nat) (gs : List Gr) (a1 : Option Addr) (c1 : Nat), k ≤ m ∧ i = .int .i64 k ∧ v = .slice a1 gs.length c1 ∧ gzs gs = grps (gbF t ls) k k ∧ OwnGr wr w1.heap.size a1 gs.length c1 gs ∧ Ext w1 wr) (fun _ _ _ _ i _ => m - (intOf i).toNat)
    case atStart => exact ⟨0, [], none, 0, Nat.zero_le _, rfl, rfl, rfl, OwnGr.isNil _ _, Ext.refl _⟩
    case round =>
      obtain ⟨k, gs, a1, c1, hk, rfl, rfl, hz, ho, hx⟩ := hrel
      have hnum := gz_num hz
      have HG := Lib.hid hz
      clear hz
      by_cases hlt : k < m
      · have HO := Lib.hid (And.intro ho hx)
        obtain ⟨b, o, ea2, hbl, hcl⟩ := (hr2.ext (H1.out.2.2.trans hx)).at (by omega)
        have hck := hcl k hlt
        have hki : (k : Int) < m := by omega
        subst ea2
        clear hcl ho hx
        go_wp2_with fail
        have xw := (Ext.refl wr).alloc (.cells #[.string (nthS ls k)] 9)
        have HV := Lib.hid (And.intro (HO.out.1.ext xw) (And.intro (HO.out.2.trans xw) (show HoldsV (wr.alloc (.cells #[.string (nthS ls k)] 9)) wr.heap.size (.string (nthS ls k)) from ⟨by simp, box_gb (Ext.refl _) 0⟩)))
        have hln1 : gs.length = (firstsG (gbF t ls) k).length := by rw [← gzs_len, HG.out, grps_len]
        have HL := Lib.hid hln1
        clear hck xw HO hln1
        refine (gbIndex_any _ _ _ gs (gbP t ls k) _ _ _ _ HV.out.1.row.rd (fun w2 x2 q' qq hq => ?_)).mono ?_
        · obtain ⟨hj, h0, hlt', _, _⟩ := gz_head HG.out hq
          have := gbClosure_any qq a n c _ m c2 (nthS ls k) t ls (firstsG (gbF t ls) k)[q'] w.heap.size (w.heap.size + 1) wr.heap.size w2 (hr.ext (H1.out.2.2.trans (HV.out.2.1.trans x2))) (hr2.ext (H1.out.2.2.trans (HV.out.2.1.trans x2))) HZ.out.1 (by omega) (wordsB_at HZ.out.2.1 (by omega)) (wordsB_at HZ.out.2.1 (by omega)) ((HV.out.1.each qq (List.mem_of_getElem? hq)).rd.ext x2) h0 (H1.out.1.ext (HV.out.2.1.trans x2)) (H1.out.2.1.ext (HV.out.2.1.trans x2)) (HV.out.2.2.ext x2)
          rw [gbP_at hj]
          exact this
        rintro e w2 ⟨z, rfl, hz, x2⟩
        have x12 := HV.out.2.1.trans x2
        have hs12 := x12.size
        have HE := Lib.hid (And.intro (HV.out.1.ext x2) x12)
        clear HV x2 x12
        rcases hz with ⟨rfl, hno⟩ | ⟨q, rfl, hq, hyes⟩
        · have HN := Lib.hid (grps_new (f := gbF t ls) (k := k) (fun q hq he => by
            have h1 := hno q (by have := HL.out; omega)
            rw [gbP_at hq] at h1
            rw [beq_eq_false_iff_ne] at h1
            exact h1 he))
          clear hno
          have hrd := RdG.new1 layGr (w2.alloc (.cells #[.int .i64 k] 2)) ⟨some ⟨w2.heap.size, 0, none⟩, 1, [(k : Int)]⟩ #[.slice (some ⟨w2.heap.size, 0, none⟩) 1 1] rfl 24
          rw [World.size_alloc] at hrd
          have HRD := Lib.hid hrd
          clear hrd
          go_wp2_with (first | (at_builtin; refine wpList_appG layGr rfl _ _ 34 24 rfl Tryz.underlying34 (.slice none 0 0) 24 Tryz.info_sliceI rfl (by decide) w1.heap.size _ gs.length _ gs rfl ((HE.out.1.row.ext ((Ext.refl _).alloc _)).alloc _) _ 1 _ [⟨some ⟨w2.heap.size, 0, none⟩, 1, [(k : Int)]⟩] rfl HRD.out (by omega) (by simp; omega) ?_; intro a4 c4 w4 hown hgrow; have HP := Lib.hid (And.intro hown hgrow); clear hown hgrow))
          go_roundw
          case rel =>
            have og := (HE.out.1.ext ((Ext.refl w2).alloc (.cells #[.int .i64 k] 2))).ext ((Ext.refl _).alloc (.cells #[.slice (some ⟨w2.heap.size, 0, none⟩) 1 1] 24))
            have oq : OwnI (w2.alloc (.cells #[.int .i64 k] 2)) w1.heap.size (some ⟨w2.heap.size, 0, none⟩) 1 1 [(k : Int)] := ⟨OwnI.lit1 w2 k hs12, by decide⟩
            have oq2 := oq.ext ((Ext.refl _).alloc (.cells #[.slice (some ⟨w2.heap.size, 0, none⟩) 1 1] 24))
            refine ⟨k + 1, gs ++ [⟨some ⟨w2.heap.size, 0, none⟩, 1, [(k : Int)]⟩], a4, c4, by omega, by go_num, by simp, by rw [gz_snoc, HG.out, HN.out], ?_, (HE.out.2.alloc _).appG (HE.out.1.row.ext ((Ext.refl _).alloc _)) (Nat.le_refl _) HP.out.2⟩
            have := OwnGr.snoc (q := ⟨some ⟨w2.heap.size, 0, none⟩, 1, [(k : Int)]⟩) og oq2 (k := w2.heap.size) rfl (gr_far HE.out.1.each (Nat.le_refl _)) HP.out.1 HP.out.2
            simpa using this
          case measure => simp [intOf]; omega
        · have hgq := List.getElem?_eq_getElem (l := gs) (i := q) hq
          obtain ⟨hj, _, _, hzs, hzl⟩ := gz_head HG.out hgq
          have hfe : gbF t ls (firstsG (gbF t ls) k)[q] = gbF t ls k := by
            rw [gbP_at hj, beq_iff_eq] at hyes
            exact hyes
          have HN := Lib.hid (And.intro (grps_old hj hfe) hzs)
          have hmem := List.mem_of_getElem? hgq
          obtain ⟨ga, rfl⟩ : ∃ ga, a1 = some ⟨ga, 0, none⟩ := by
            rcases own_addr HE.out.1.row.1 with rfl | h
            · have := HE.out.1.row.rd.isNone.1; omega
            · exact h
          have hga := (HE.out.1.row.1.lt ga rfl).1
          have hcell : w2.cell? ⟨ga, q, none⟩ = some (.slice gs[q].at_ gs[q].zs.length gs[q].cp) := by
            obtain ⟨b', o', e', _, hc'⟩ := HE.out.1.row.rd.at (by omega)
            cases e'
            have := hc' q _ hgq 0 (valGr gs[q]) rfl
            simpa [layGr, valGr] using this
          have hqi : (q : Int) < gs.length := by omega
          have HQ := Lib.hid (And.intro hgq hmem)
          clear hgq hmem hzs hfe hyes
          generalize gs[q] = gq at hcell HQ HN hzl ⊢
          go_wp2_with (first | (at_builtin; refine wpList_appI rfl _ _ rfl w1.heap.size _ gq.zs.length gq.zs rfl ((HE.out.1.each gq HQ.out.2).alloc _) _ 1 _ [(k : Int)] rfl (RdI.new1 _ _ _) (by omega) (by simp; omega) ?_; intro a4 c4 w4 hown hgrow; have hrw := own_grown (HE.out.1.row.ext ((Ext.refl w2).alloc (.cells #[.int .i64 k] 2))).1 hgrow (fun j hj e => own_apart (HE.out.1.row.ext ((Ext.refl w2).alloc (.cells #[.int .i64 k] 2))).1 ((HE.out.1.each gq HQ.out.2).alloc _) kind_ne hj e.symm); obtain ⟨u, hu⟩ := own_oldG hrw q (by simpa [layGr] using hq); have hf := hrw.frozenAt q; have HP := Lib.hid (And.intro (OwnGr.upd (HE.out.1.ext ((Ext.refl w2).alloc (.cells #[.int .i64 k] 2))) (heads_grps HG.out) HQ.out.1 hown hgrow) ((HE.out.2.app (HE.out.1.each gq HQ.out.2) (Nat.le_refl _) hgrow).setCell (p := ⟨ga, q, none⟩) hga (.slice a4 (gq.zs.length + 1) c4))); clear hown hgrow hrw))
          go_roundw
          case rel => exact ⟨k + 1, gs.set q ⟨a4, c4, gq.zs ++ [(k : Int)]⟩, some ⟨ga, 0, none⟩, c1, by omega, by go_num, by simp, by rw [gz_set, HG.out, HN.out.1, HN.out.2], by simpa using HP.out.1, by simpa using HP.out.2⟩
          case measure => simp [intOf]; omega
      · obtain rfl : k = m := by omega
        go_wp2
        go_ret2
        rw [HZ.out.2.2.2, HZ.out.2.2.1, hln2]
        exact ⟨_, _, gs, rfl, HG.out, ho.mono hw1, H1.out.2.2.trans hx⟩
  · have hc := codeS_long (s := ⟨#[97]⟩) h0 word_a h2 h3
    have HZ := Lib.hid (And.intro h0 (And.intro h2 (And.intro hc (gbL_no hc (by decide)))))
    have h3i : (20 : Int) < m := by omega
    clear h0 h2 hc
    have k2 := HB.out.2.2
    go_enter Tryz.func12, Tryz.ntmps12
    go_wp2_with (first | (go_at_call 22; refine (implIsSoundTable_any _ _ _ _ _ (hr.ext xb)).mono ?_; rintro e w' ⟨rfl, rfl⟩; rw [HZ.out.1]) | fail)
    refine (areWords_any _ _ _ _ _ (hr2.ext xb)).mono ?_
    rintro e w1 ⟨rfl, e1⟩
    rw [HZ.out.2.1]
    clear k2
    have k2 := (HB.out.2.ext e1).2
    go_wp2
    go_ret2
    rw [HZ.out.2.2.1, HZ.out.2.2.2]
    exact RetGC.nil (xb.trans e1)

/-- No index ahead of the least of i and k has the same f. -/
def fstK {β : Type} [DecidableEq β] (f : Nat → β) (i k : Nat) : Bool := (List.range (min i k)).all fun j => decide (f j ≠ f i)
theorem fstK_zero {β : Type} [DecidableEq β] (f : Nat → β) (i : Nat) : fstK f i 0 = true := by simp [fstK]
theorem fstK_all {β : Type} [DecidableEq β] {f : Nat → β} {i k : Nat} (h : i ≤ k) : fstK f i k = firstG f i := by rw [fstK, firstG, Nat.min_eq_left h]
theorem fstK_past {β : Type} [DecidableEq β] {f : Nat → β} {i k : Nat} (h : i ≤ k) : fstK f i (k + 1) = fstK f i k := by rw [fstK, fstK, Nat.min_eq_left h, Nat.min_eq_left (by omega)]
theorem fstK_ne {β : Type} [DecidableEq β] {f : Nat → β} {i k : Nat} (h : f k ≠ f i) : fstK f i (k + 1) = fstK f i k := by
  by_cases hik : i ≤ k
  · exact fstK_past hik
  · rw [fstK, fstK, Nat.min_eq_right (by omega), Nat.min_eq_right (by omega), List.range_succ, List.all_append]
    simp [h]
theorem fstK_eq {β : Type} [DecidableEq β] {f : Nat → β} {i k : Nat} (hik : k < i) (h : f k = f i) : fstK f i (k + 1) = false := by
  rw [fstK, Nat.min_eq_right (by omega), List.range_succ, List.all_append]
  simp [h]

set_option maxRecDepth 100000 in
set_option maxHeartbeats 4000000 in
theorem specGroupsBySound_any (a : Option Addr) (n c : Nat) (a2 : Option Addr) (m c2 : Nat) (t : List Int) (ls : List ByteArray) (w : World) (hr : RdI w a n t) (hr2 : RdS w a2 m ls) :
    Calls Tryz.prog 13 #[.slice a n c, .slice a2 m c2] w (RetGC w (gbL t ls) (codeS t ls ⟨#[97]⟩)) := by
  have hm := hr2.le
  have hln2 := hr2.len
  by_cases hc : codeS t ls ⟨#[97]⟩ = 0
  · obtain ⟨h0, h1, h2, h3⟩ := codeS_zero hc
    have HZ := Lib.hid (And.intro h0 (And.intro h2 (And.intro hc (gbL_yes hc))))
    clear hc h0 h1 h2
    go_enter Tryz.func13, Tryz.ntmps13
    go_wp2_with fail
    refine (l07Code_any _ _ _ _ _ _ _ _ _ _ hr hr2 (by decide)).mono ?_
    rintro e w1 ⟨rfl, rfl⟩
    rw [HZ.out.2.2.1]
    go_wp2
    go_loopw [7, 8, 9, 10, 11] (fun v i _ _ _ wr => ∃ (k : Nat) (gs : List Gr) (a1 : Option Addr) (c1 : Nat), k ≤ m ∧ i = .int .i64 k ∧ v = .slice a1 gs.length c1 ∧ gzs gs = grps (gbF t ls) k m ∧ OwnGr wr w.heap.size a1 gs.length c1 gs ∧ Ext w wr) (fun _ i _ _ _ _ => m - (intOf i).toNat)
    case atStart => exact ⟨0, [], _, _, Nat.zero_le _, rfl, rfl, rfl, ⟨OwnG.lit layGr 24 w (Nat.le_refl _) [] #[] rfl (by simp), by simp, List.Pairwise.nil⟩, (Ext.refl _).alloc _⟩
    case round =>
      obtain ⟨i, gs, a1, c1, hi, rfl, rfl, hz, ho, hx⟩ := hrel
      have hnum := gz_num hz
      have HG := Lib.hid (And.intro hz (And.intro ho hx))
      clear hz ho hx
      rename World => wq
      have hr1 := hr.ext HG.out.2.2
      have hws := HG.out.2.2.size
      by_cases hlt : i < m
      · have hii : (i : Int) < m := by omega
        obtain ⟨b, o, ea2, hbl0, hcl⟩ := (hr2.ext HG.out.2.2).at (by omega)
        subst ea2
        have HC := Lib.hid hcl
        have hwi := wordsB_at HZ.out.2.1 (k := i) (by omega)
        have HWI := Lib.hid hwi
        clear hcl hwi
        go_wp2
        go_loopw [9, 10, 11] (fun g f j wr => ∃ (j' n3 c3 : Nat) (a3 : Option Addr), j' ≤ m ∧ j = .int .i64 j' ∧ g = .slice a3 n3 c3 ∧ f = .bool (fstK (gbF t ls) i j') ∧ OwnI wr wq.heap.size a3 n3 c3 (likeG (gbF t ls) j' i) ∧ Ext wq wr) (fun _ _ j _ => m - (intOf j).toNat)
        case atStart => exact ⟨0, 0, _, _, Nat.zero_le _, rfl, rfl, by rw [fstK_zero], ⟨OwnI.lit0 wq (Nat.le_refl _), by decide⟩, (Ext.refl _).alloc _⟩
        case round =>
          obtain ⟨j, n3, c3, a3, hj, rfl, rfl, rfl, ho2, hxi⟩ := hrel
          by_cases hjm : j < m
          · have hbl := Nat.lt_of_lt_of_le hbl0 hxi.size
            have hcj := (Below.cell hxi (p := ⟨b, o + j, none⟩) hbl0).trans (HC.out j hjm)
            have hci := (Below.cell hxi (p := ⟨b, o + i, none⟩) hbl0).trans (HC.out i hlt)
            have HW := Lib.hid (And.intro (wordsB_at HZ.out.2.1 (k := j) (by omega)) HWI.out)
            have hjj : (j : Int) < m := by omega
            go_wp2
            refine wp_region_held_drew (S := Ext wr) (by kernel_rfl) (Ext.refl _).drew (fun hHeld => ?_)
            generalize hwd : World.drew _ = wd at hHeld ⊢
            clear hwd
            refine takeYesH 0 32 ?v12 rfl rfl (by kernel_rfl) (by kernel_rfl) (by kernel_rfl) (fun _ _ _ _ h => h) (by kernel_rfl) hHeld ?y12 ?r12
            case y12 => intro wq hq; go_simp; first | done | with_reducible rfl
            simp only [Act.put, List.setIfInBounds_toArray, List.set_cons_zero, List.set_cons_succ]
            refine takeYesH 1 33 ?v13 rfl rfl (by kernel_rfl) (by kernel_rfl) (by kernel_rfl) (fun _ _ _ _ h => h) (by kernel_rfl) hHeld ?y13 ?r13
            case y13 => intro wq hq; go_simp; first | done | with_reducible rfl
            simp only [Act.put, List.setIfInBounds_toArray, List.set_cons_zero, List.set_cons_succ]
            refine takeYesH 2 34 ?v14 rfl rfl (by kernel_rfl) (by kernel_rfl) (by kernel_rfl) (fun _ _ _ _ h => h) (by kernel_rfl) hHeld ?y14 ?r14
            case y14 => intro wq hq; go_simp; first | done | with_reducible rfl
            simp only [Act.put, List.setIfInBounds_toArray, List.set_cons_zero, List.set_cons_succ]
            refine takeYesH 3 35 ?v15 rfl rfl (by kernel_rfl) (by kernel_rfl) (by kernel_rfl) (fun _ _ _ _ h => h) (by kernel_rfl) hHeld ?y15 ?r15
            case y15 => intro wq hq; go_simp; first | done | with_reducible rfl
            simp only [Act.put, List.setIfInBounds_toArray, List.set_cons_zero, List.set_cons_succ]
            refine takeYesH 4 36 ?v16 rfl rfl (by kernel_rfl) (by kernel_rfl) (by kernel_rfl) (fun _ _ _ _ h => h) (by kernel_rfl) hHeld ?y16 ?r16
            case y16 =>
              intro wq hq
              have z1 := (Below.cell hq (p := ⟨b, o + j, none⟩) hbl).trans hcj
              have z2 := (Below.cell hq (p := ⟨b, o + i, none⟩) hbl).trans hci
              go_simp
              first | done | with_reducible rfl
            simp only [Act.put, List.setIfInBounds_toArray, List.set_cons_zero, List.set_cons_succ]
            refine takeYesH 6 38 ?v17 rfl rfl (by kernel_rfl) (by kernel_rfl) (by kernel_rfl) (fun _ _ _ _ h => h) (by kernel_rfl) hHeld ?y17 ?r17
            case y17 => intro wq hq; go_simp; first | done | with_reducible rfl
            simp only [Act.put, List.setIfInBounds_toArray, List.set_cons_zero, List.set_cons_succ]
            refine takeYesH 7 39 ?v18 rfl rfl (by kernel_rfl) (by kernel_rfl) (by kernel_rfl) (fun _ _ _ _ h => h) (by kernel_rfl) hHeld ?y18 ?r18
            case y18 => intro wq hq; go_simp; first | done | with_reducible rfl
            simp only [Act.put, List.setIfInBounds_toArray, List.set_cons_zero, List.set_cons_succ]
            refine takeYesH 8 40 ?v19 rfl rfl (by kernel_rfl) (by kernel_rfl) (by kernel_rfl) (fun _ _ _ _ h => h) (by kernel_rfl) hHeld ?y19 ?r19
            case y19 => intro wq hq; go_simp; first | done | with_reducible rfl
            simp only [Act.put, List.setIfInBounds_toArray, List.set_cons_zero, List.set_cons_succ]
            refine takeYesH 9 41 ?v20 rfl rfl (by kernel_rfl) (by kernel_rfl) (by kernel_rfl) (fun _ _ _ _ h => h) (by kernel_rfl) hHeld ?y20 ?r20
            case y20 => intro wq hq; go_simp; first | done | with_reducible rfl
            simp only [Act.put, List.setIfInBounds_toArray, List.set_cons_zero, List.set_cons_succ]
            refine takeYesH 10 42 ?v21 rfl rfl (by kernel_rfl) (by kernel_rfl) (by kernel_rfl) (fun _ _ _ _ h => h) (by kernel_rfl) hHeld ?y21 ?r21
            case y21 =>
              intro wq hq
              have z1 := (Below.cell hq (p := ⟨b, o + j, none⟩) hbl).trans hcj
              have z2 := (Below.cell hq (p := ⟨b, o + i, none⟩) hbl).trans hci
              go_simp
              first | done | with_reducible rfl
            simp only [Act.put, List.setIfInBounds_toArray, List.set_cons_zero, List.set_cons_succ]
            refine wpAnyH_ready (rs := [5]) (by kernel_rfl) (by simp) ?_
            refine AllReadyH.cons rfl (fun K hK => ?_) AllReadyH.nil
            go_simp
            refine (l07Sound_any _ _ _ _ _ _ (hr1.ext (hxi.trans hHeld)) HZ.out.1 HW.out.1).mono ?_
            rintro e w1 ⟨rfl, e1⟩
            go_wp2_with fail
            refine hK.out _ _ (hHeld.trans e1) (fun hHeld => ?_)
            clear hK K
            try simp only [Act.put, List.setIfInBounds_toArray, List.set_cons_zero, List.set_cons_succ]
            refine wpAnyH_ready (rs := [11]) (by kernel_rfl) (by simp) ?_
            refine AllReadyH.cons rfl (fun K hK => ?_) AllReadyH.nil
            go_simp
            refine (l07Sound_any _ _ _ _ _ _ (hr1.ext (hxi.trans hHeld)) HZ.out.1 HW.out.2).mono ?_
            rintro e w2 ⟨rfl, e2⟩
            go_wp2_with fail
            refine hK.out _ _ (hHeld.trans e2) (fun hHeld => ?_)
            clear hK K
            try simp only [Act.put, List.setIfInBounds_toArray, List.set_cons_zero, List.set_cons_succ]
            refine takeYesH 12 44 ?v22 rfl rfl (by kernel_rfl) (by kernel_rfl) (by kernel_rfl) (fun _ _ _ _ h => h) (by kernel_rfl) hHeld ?y22 ?r22
            case y22 => intro wq hq; go_simp; first | done | with_reducible rfl
            simp only [Act.put, List.setIfInBounds_toArray, List.set_cons_zero, List.set_cons_succ]
            refine wpAnyH_done (by kernel_rfl) ?_ _
            have hxe := hxi.trans hHeld
            have HE := Lib.hid (And.intro (ho2.ext hHeld) hxe)
            have hxs := hxe.size
            clear hxe
            cases hb : ((soundT t (nthS ls j)).toList == (soundT t (nthS ls i)).toList)
            · have HS := Lib.hid (And.intro (like_out (n := j) (show gbF t ls j ≠ gbF t ls i from fun e => by rw [show ((soundT t (nthS ls j)).toList == (soundT t (nthS ls i)).toList) = true from beq_iff_eq.2 e] at hb; cases hb)) (fstK_ne (k := j) (show gbF t ls j ≠ gbF t ls i from fun e => by rw [show ((soundT t (nthS ls j)).toList == (soundT t (nthS ls i)).toList) = true from beq_iff_eq.2 e] at hb; cases hb)))
              go_wp2
              refine ⟨⟨j + 1, n3, c3, a3, by omega, by go_num, rfl, by rw [HS.out.2], by rw [HS.out.1]; exact HE.out.1, HE.out.2⟩, ?_⟩
              simp only [intOf]; omega
            · have hfe : gbF t ls j = gbF t ls i := beq_iff_eq.1 hb
              have hl3 : n3 ≤ j := by have h1 := ho2.rd.len; have h2 := like_len (f := gbF t ls) j i; omega
              have hyes := like_in (n := j) hfe
              by_cases hji : j < i
              · have HS := Lib.hid (And.intro hyes (fstK_eq hji hfe))
                have hjii : ¬ (i : Int) ≤ j := by omega
                clear hfe hyes
                cases hF : fstK (gbF t ls) i j
                all_goals
                  go_wp2_with (first | (at_builtin; refine wpList_appI rfl _ _ rfl wq.heap.size _ n3 _ rfl (HE.out.1.alloc _) _ 1 _ [(j : Int)] rfl (RdI.new1 _ _ _) (by omega) (by simp; omega) ?_; intro a4 c4 w4 hown hgrow; have hb2 := HE.out.2.app HE.out.1 (Nat.le_refl _) hgrow; have HP := Lib.hid hown; clear hown))
                  refine ⟨⟨j + 1, _, _, _, by omega, by go_num, rfl, by rw [HS.out.2], by rw [HS.out.1]; exact HP.out, hb2⟩, ?_⟩
                  simp only [intOf]; omega
              · have HS := Lib.hid (And.intro hyes (fstK_past (f := gbF t ls) (i := i) (k := j) (by omega)))
                have hjii : (i : Int) ≤ j := by omega
                clear hfe hyes
                cases hF : fstK (gbF t ls) i j
                all_goals
                  have HF := Lib.hid hF
                  go_wp2_with (first | (at_builtin; refine wpList_appI rfl _ _ rfl wq.heap.size _ n3 _ rfl (HE.out.1.alloc _) _ 1 _ [(j : Int)] rfl (RdI.new1 _ _ _) (by omega) (by simp; omega) ?_; intro a4 c4 w4 hown hgrow; have hb2 := HE.out.2.app HE.out.1 (Nat.le_refl _) hgrow; have HP := Lib.hid hown; clear hown))
                  refine ⟨⟨j + 1, _, _, _, by omega, by go_num, rfl, by rw [HS.out.2, HF.out], by rw [HS.out.1]; exact HP.out, hb2⟩, ?_⟩
                  simp only [intOf]; omega
          · obtain rfl : j = m := by omega
            obtain rfl : n3 = (likeG (gbF t ls) j i).length := ho2.rd.len.symm
            have hl3 := like_len (f := gbF t ls) j i
            have HX := Lib.hid (And.intro ho2 hxi)
            have hxs := hxi.size
            clear ho2 hxi
            cases hF : fstK (gbF t ls) i j
            · have hz' := grps_out (f := gbF t ls) (k := i) (n := j) (by rw [← fstK_all (f := gbF t ls) hi]; exact hF)
              have HF := Lib.hid hz'
              clear hz'
              go_wp2
              go_roundw
              case rel => exact ⟨i + 1, gs, a1, c1, by omega, by go_num, rfl, by rw [HF.out]; exact HG.out.1, HG.out.2.1.ext HX.out.2, HG.out.2.2.trans HX.out.2⟩
              case measure => simp [intOf]; omega
            · have hf1 : firstG (gbF t ls) i = true := by rw [← fstK_all (f := gbF t ls) hi]; exact hF
              have HF := Lib.hid (And.intro hf1 (grps_in (f := gbF t ls) (k := i) (n := j) hf1))
              clear hf1
              go_wp2_with (first | (at_builtin; refine wpList_appG layGr rfl _ _ 34 24 rfl Tryz.underlying34 (.slice none 0 0) 24 Tryz.info_sliceI rfl (by decide) w.heap.size _ gs.length _ gs rfl ((HG.out.2.1.row.ext HX.out.2).alloc _) _ 1 _ [⟨a3, c3, likeG (gbF t ls) j i⟩] rfl (RdG.new1 layGr _ _ _ rfl _) (by omega) (by simp; omega) ?_; intro a4 c4 w4 hown hgrow; have HP := Lib.hid (And.intro hown hgrow); clear hown hgrow))
              go_roundw
              case rel =>
                obtain ⟨l, hl⟩ := like_head (n := j) hlt HF.out.1
                obtain ⟨g3, rfl, hg3, hk3⟩ := gr_block HX.out.1 (by rw [hl]; simp)
                have og := (HG.out.2.1.ext HX.out.2).ext ((Ext.refl _).alloc (.cells #[.slice (some ⟨g3, 0, none⟩) (likeG (gbF t ls) j i).length c3] 24))
                have oq := (HX.out.1.mono hws).ext ((Ext.refl _).alloc (.cells #[.slice (some ⟨g3, 0, none⟩) (likeG (gbF t ls) j i).length c3] 24))
                refine ⟨i + 1, gs ++ [⟨some ⟨g3, 0, none⟩, c3, likeG (gbF t ls) j i⟩], a4, c4, by omega, by go_num, by simp, by rw [gz_snoc, HF.out.2, HG.out.1], ?_, (HG.out.2.2.trans HX.out.2).appG (HG.out.2.1.row.ext HX.out.2) (Nat.le_refl _) HP.out.2⟩
                have := OwnGr.snoc (q := ⟨some ⟨g3, 0, none⟩, c3, likeG (gbF t ls) j i⟩) og oq hk3 (gr_far HG.out.2.1.each hg3) HP.out.1 HP.out.2
                simpa using this
              case measure => simp [intOf]; omega
      · obtain rfl : i = m := by omega
        go_wp2
        go_ret2
        rw [HZ.out.2.2.2, HZ.out.2.2.1, hln2]
        exact ⟨_, _, gs, rfl, HG.out.1, HG.out.2.1, HG.out.2.2⟩
  · have hb : (codeS t ls ⟨#[97]⟩ != 0) = true := by simpa using hc
    have HZ := Lib.hid (gbL_no rfl hc)
    clear hc
    go_enter Tryz.func13, Tryz.ntmps13
    go_wp2_with fail
    refine (l07Code_any _ _ _ _ _ _ _ _ _ _ hr hr2 (by decide)).mono ?_
    rintro e w1 ⟨rfl, rfl⟩
    go_wp2
    go_ret2
    rw [HZ.out]
    exact RetGC.nil (Ext.refl _)

end Go.Proofs.YtfglmoedicijkaaGreatDoor

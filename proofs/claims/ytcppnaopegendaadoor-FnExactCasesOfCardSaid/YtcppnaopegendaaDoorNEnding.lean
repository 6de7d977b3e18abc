/-
  Ending: how it lies; the statements' own helpers on such values and slices of them.
-/
import Derived.Test.YtcppnaopegendaaDoorS
import Derived.StillTailTactics
namespace Go.Proofs.YtcppnaopegendaaDoor
open Go.RowKit

structure EndingV where
  old : ByteArray
  new : ByteArray
  kase : Int

def valEnding (x : EndingV) : Value := .agg #[.string x.old, .string x.new, .int .i64 x.kase]
def layEnding : Lay EndingV where
  cells x := [.string x.old, .string x.new, .int .i64 x.kase]
  sz := 3
  len _ := rfl
  one _ u hu := by simp at hu; rcases hu with rfl | rfl | rfl <;> rfl
  pos := by decide
def nthEnding (xs : List EndingV) (k : Nat) : EndingV := xs.getD k ⟨ByteArray.empty, ByteArray.empty, 0⟩
theorem nthEnding_eq {xs : List EndingV} {k : Nat} (h : k < xs.length) : nthEnding xs k = xs[k] := by simp [nthEnding, h]
theorem nthEnding_mem {xs : List EndingV} {k : Nat} (h : k < xs.length) : nthEnding xs k ∈ xs := by rw [nthEnding_eq h]; exact List.getElem_mem h
def okEnding (x : EndingV) : Prop := x.old.size ≤ 1073741824 ∧ x.new.size ≤ 1073741824
def ok0Ending (x : EndingV) : Prop := x.old.size ≤ 9223372036854775807 ∧ x.new.size ≤ 9223372036854775807
def sizeEnding (x : EndingV) : Nat := x.old.size + x.new.size
def RdEnding (w : World) (a : Option Addr) (n : Nat) (xs : List EndingV) : Prop := RdG layEnding w a n xs ∧ ∀ x ∈ xs, okEnding x
theorem RdEnding.ext {w w' : World} {a : Option Addr} {n : Nat} {xs : List EndingV} (h : RdEnding w a n xs) (x : Ext w w') : RdEnding w' a n xs := ⟨h.1.ext x, h.2⟩
theorem RdEnding.len {w : World} {a : Option Addr} {n : Nat} {xs : List EndingV} (h : RdEnding w a n xs) : xs.length = n := h.1.len
theorem RdEnding.le {w : World} {a : Option Addr} {n : Nat} {xs : List EndingV} (h : RdEnding w a n xs) : n ≤ 4294967296 := h.1.le
theorem RdEnding.ok {w : World} {a : Option Addr} {n : Nat} {xs : List EndingV} (h : RdEnding w a n xs) {k : Nat} (hk : k < n) : okEnding (nthEnding xs k) := h.2 _ (nthEnding_mem (by rw [h.len]; exact hk))
theorem RdEnding.at {w : World} {a : Option Addr} {n : Nat} {xs : List EndingV} (h : RdEnding w a n xs) (hn : 0 < n) :
    ∃ b o, a = some ⟨b, o, none⟩ ∧ b < w.heap.size ∧ ∀ k, k < n → w.cell? ⟨b, o + k * 3, none⟩ = some (.string (nthEnding xs k).old) ∧ w.cell? ⟨b, o + k * 3 + 1, none⟩ = some (.string (nthEnding xs k).new) ∧ w.cell? ⟨b, o + k * 3 + 2, none⟩ = some (.int .i64 (nthEnding xs k).kase) := by
  obtain ⟨b, o, ha, hb, hc⟩ := h.1.at hn
  have hl := h.len
  exact ⟨b, o, ha, hb, fun k hk => ⟨hc k _ (List.getElem?_eq_getElem (by omega)) 0 _ (by rw [nthEnding_eq (by omega)]; rfl), by rw [Nat.add_assoc]; exact hc k _ (List.getElem?_eq_getElem (by omega)) 1 _ (by rw [nthEnding_eq (by omega)]; rfl), by rw [Nat.add_assoc]; exact hc k _ (List.getElem?_eq_getElem (by omega)) 2 _ (by rw [nthEnding_eq (by omega)]; rfl)⟩⟩
def OwnEnding (w : World) (B : Nat) (a : Option Addr) (n c : Nat) (xs : List EndingV) : Prop := OwnG layEnding 63 w B a n c xs ∧ ∀ x ∈ xs, okEnding x
theorem OwnEnding.rd {w : World} {B n c : Nat} {a : Option Addr} {xs : List EndingV} (h : OwnEnding w B a n c xs) : RdEnding w a n xs := ⟨h.1.rd, h.2⟩
theorem OwnEnding.ext {w w' : World} {B n c : Nat} {a : Option Addr} {xs : List EndingV} (h : OwnEnding w B a n c xs) (x : Ext w w') : OwnEnding w' B a n c xs := ⟨h.1.ext x, h.2⟩
theorem OwnEnding.mono {w : World} {B B' n c : Nat} {a : Option Addr} {xs : List EndingV} (h : OwnEnding w B a n c xs) (hb : B' ≤ B) : OwnEnding w B' a n c xs := ⟨h.1.mono hb, h.2⟩
theorem OwnEnding.cap {w : World} {B n c : Nat} {a : Option Addr} {xs : List EndingV} (h : OwnEnding w B a n c xs) : n ≤ c := by
  rcases h.1.1.2 with ⟨h1, h2⟩ | ⟨g, cap, cur, hv, _, _, hc, _⟩
  · omega
  · cases hv; exact hc
def NewEnding (w w' : World) (xs : List EndingV) (v : Value) : Prop := ∃ a n c, v = .slice a n c ∧ OwnEnding w' w.heap.size a n c xs ∧ Ext w w'
/-- What is left of a measure. -/
def leftEnding (m : Nat) (left r : Int) : Prop := (0 ≤ r → (m : Int) + r = left) ∧ (r < 0 → r = -1)

set_option maxHeartbeats 400000 in
theorem toEnding_any (x : EndingV) (w : World) :
    Calls Tryd.prog 40 #[valEnding x] w fun e w' => e = .returned (valEnding x) ∧ Ext w w' := by
  obtain ⟨v0, v1, v2⟩ := x
  simp only [valEnding]
  go_enter Tryd.func40, Tryd.ntmps40
  go_wp2
  exact bodyPost_ret (v := .agg #[.string v0, .string v1, .int .i64 v2]) (by simp [results, Tryd.results40, go_sem]) rfl ⟨rfl, by repeat (first | exact Ext.refl _ | apply Ext.alloc)⟩

set_option maxHeartbeats 400000 in
theorem eqEnding_same (x : EndingV) (w : World) :
    Calls Tryd.prog 45 #[valEnding x, valEnding x] w fun e w' => e = .returned (.bool true) ∧ Ext w w' := by
  obtain ⟨v0, v1, v2⟩ := x
  simp only [valEnding]
  go_enter Tryd.func45, Tryd.ntmps45
  go_wp2
  go_ret
  exact ⟨rfl, by repeat (first | exact Ext.refl _ | apply Ext.alloc)⟩

set_option maxHeartbeats 400000 in
theorem szEnding_any (x : EndingV) (left : Int) (w : World) (hx : ok0Ending x) (h0 : 0 ≤ left) (h1 : left ≤ 1048576) :
    Calls Tryd.prog 36 #[valEnding x, .int .i64 left] w fun e w' => ∃ r, e = .returned (.int .i64 r) ∧ leftEnding (sizeEnding x) left r ∧ Ext w w' := by
  obtain ⟨v0, v1, v2⟩ := x
  obtain ⟨hx0, hx1⟩ := hx
  simp only [valEnding, sizeEnding] at hx0 hx1 ⊢
  by_cases c0 : left < v0.size
  · go_enter Tryd.func36, Tryd.ntmps36
    go_wp2
    go_ret
    exact ⟨-1, rfl, ⟨fun h => by omega, fun _ => rfl⟩, by repeat (first | exact Ext.refl _ | apply Ext.alloc)⟩
  · by_cases c1 : left < (v0.size : Int) + v1.size
    · go_enter Tryd.func36, Tryd.ntmps36
      go_wp2
      go_ret
      exact ⟨-1, rfl, ⟨fun h => by omega, fun _ => rfl⟩, by repeat (first | exact Ext.refl _ | apply Ext.alloc)⟩
    · go_enter Tryd.func36, Tryd.ntmps36
      go_wp2
      go_ret
      exact ⟨_, rfl, ⟨fun h => by omega, fun h => by omega⟩, by repeat (first | exact Ext.refl _ | apply Ext.alloc)⟩

theorem leftEnding_ok {x : EndingV} {left r : Int} (h : leftEnding (sizeEnding x) left r) (h0 : 0 ≤ r) (h1 : left ≤ 1048576) : okEnding x := by
  have := h.1 h0
  unfold sizeEnding at this
  unfold okEnding
  omega

/-- Values that came in; sizes not bounded by us. -/
def InEnding (w : World) (a : Option Addr) (n : Nat) (xs : List EndingV) : Prop := xs.length = n ∧ n ≤ 9223372036854775807 ∧ Rd w a (xs.flatMap layEnding.cells) ∧ ∀ x ∈ xs, ok0Ending x
def totEnding (xs : List EndingV) : Nat := (xs.map sizeEnding).sum
theorem totEnding_take {xs : List EndingV} {k : Nat} (hk : k < xs.length) : totEnding (xs.take (k + 1)) = totEnding (xs.take k) + sizeEnding (nthEnding xs k) := by
  rw [totEnding, totEnding, List.take_succ_eq_append_getElem hk, List.map_append, List.sum_append, nthEnding_eq hk]
  simp
theorem totEnding_le {xs : List EndingV} {x : EndingV} (h : x ∈ xs) : sizeEnding x ≤ totEnding xs := by
  induction xs with
  | nil => simp at h
  | cons y ys ih =>
    rw [totEnding, List.map_cons, List.sum_cons]
    rcases List.mem_cons.1 h with rfl | h
    · omega
    · have := ih h
      rw [totEnding] at this
      omega
theorem InEnding.rd {w : World} {a : Option Addr} {n : Nat} {xs : List EndingV} (h : InEnding w a n xs) (hn : n ≤ 4294967296) (hs : ∀ x ∈ xs, okEnding x) : RdEnding w a n xs := ⟨⟨h.1, hn, h.2.2.1⟩, hs⟩
theorem InEnding.ext {w w' : World} {a : Option Addr} {n : Nat} {xs : List EndingV} (h : InEnding w a n xs) (x : Ext w w') : InEnding w' a n xs := ⟨h.1, h.2.1, h.2.2.1.ext x, h.2.2.2⟩
theorem InEnding.at {w : World} {a : Option Addr} {n : Nat} {xs : List EndingV} (h : InEnding w a n xs) (hn : 0 < n) :
    ∃ b o, a = some ⟨b, o, none⟩ ∧ b < w.heap.size ∧ ∀ k, k < n → w.cell? ⟨b, o + k * 3, none⟩ = some (.string (nthEnding xs k).old) ∧ w.cell? ⟨b, o + k * 3 + 1, none⟩ = some (.string (nthEnding xs k).new) ∧ w.cell? ⟨b, o + k * 3 + 2, none⟩ = some (.int .i64 (nthEnding xs k).kase) := by
  have hl := h.1
  obtain ⟨b, o, ha, hb, hc⟩ := h.2.2.1.pos (by rw [flat_len, hl]; exact Nat.mul_pos hn (by decide))
  have hcc : ∀ k, k < n → ∀ j u, (layEnding.cells (nthEnding xs k))[j]? = some u → w.cell? ⟨b, o + (k * 3 + j), none⟩ = some u := by
    intro k hk j u hu
    refine hc _ u ?_
    have := flat_get layEnding xs k j (nthEnding xs k) (by rw [nthEnding_eq (by omega)]; exact List.getElem?_eq_getElem (by omega)) (List.getElem?_eq_some_iff.1 hu).1
    exact this.trans hu
  exact ⟨b, o, ha, hb, fun k hk => ⟨hcc k hk 0 _ rfl, by rw [Nat.add_assoc]; exact hcc k hk 1 _ rfl, by rw [Nat.add_assoc]; exact hcc k hk 2 _ rfl⟩⟩
/-- What counting leaves. -/
theorem leftEnding_rd {w : World} {a : Option Addr} {n : Nat} {xs : List EndingV} {left r : Int} (h : InEnding w a n xs) (hl : Left n (totEnding xs) left r) (h0 : 0 ≤ r) (h1 : left ≤ 1048576) : RdEnding w a n xs := by
  have := hl.1 h0
  exact h.rd (by omega) fun x hx => by have := totEnding_le hx; unfold sizeEnding at this; unfold okEnding; omega

set_option maxHeartbeats 400000 in
theorem szEndingS_any (a : Option Addr) (n c : Nat) (left : Int) (xs : List EndingV) (w : World) (hr : InEnding w a n xs) (h0 : 0 ≤ left) (h1 : left ≤ 1048576) :
    Calls Tryd.prog 7 #[.slice a n c, .int .i64 left] w fun e w' => ∃ r, e = .returned (.int .i64 r) ∧ Left n (totEnding xs) left r ∧ Ext w w' := by
  have hm := hr.2.1
  by_cases hbig : left < n
  · go_enter Tryd.func7, Tryd.ntmps7
    go_wp2
    go_ret
    exact ⟨-1, rfl, ⟨by omega, fun _ => rfl⟩, Ext.refl _⟩
  · go_enter Tryd.func7, Tryd.ntmps7
    go_wp2
    go_loopw [1, 5] (fun u i wr => ∃ (k : Nat) (r : Int), k ≤ n ∧ i = .int .i64 k ∧ u = .int .i64 r ∧ 0 ≤ r ∧ (n : Int) + totEnding (xs.take k) + r = left ∧ Ext w wr) (fun _ i _ => n - (intOf i).toNat)
    case atStart => exact ⟨0, left - n, Nat.zero_le _, rfl, rfl, by omega, by simp [totEnding]; omega, Ext.refl _⟩
    case round =>
      obtain ⟨k, r, hk, rfl, rfl, hr0, hsum, hx⟩ := hrel
      have HS := Lib.hid hsum
      have hrl : r ≤ 1048576 := by omega
      clear hsum
      by_cases hlt : k < n
      · obtain ⟨b, o, rfl, hbl, hc⟩ := (hr.ext hx).at (by omega)
        obtain ⟨hc0, hc1, hc2⟩ := hc k hlt
        have hok := hr.2.2.2 _ (nthEnding_mem (k := k) (by rw [hr.1]; exact hlt))
        have htk := totEnding_take (xs := xs) (k := k) (by rw [hr.1]; exact hlt)
        have HT := Lib.hid htk
        clear hc htk
        go_wp2_with fail
        refine (szEnding_any (nthEnding xs k) r _ hok (by omega) (by omega)).mono ?_
        rintro e w1 ⟨r1, rfl, hl1, hx1⟩
        by_cases hneg : r1 < 0
        · go_wp2
          go_ret
          exact ⟨-1, rfl, ⟨by omega, fun _ => rfl⟩, hx.trans hx1⟩
        · go_wp2
          go_roundw
          case rel =>
            have h1 := HS.out
            have h2 := hl1.1 (by omega)
            exact ⟨k + 1, _, by omega, by go_num, rfl, by omega, by rw [HT.out]; omega, hx.trans hx1⟩
          case measure => simp [intOf]; omega
      · obtain rfl : k = n := by omega
        go_wp2
        go_ret
        refine ⟨r, rfl, ⟨fun _ => ?_, by omega⟩, hx⟩
        have := HS.out
        rwa [List.take_of_length_le (by rw [hr.1]; exact Nat.le_refl _)] at this

set_option maxRecDepth 100000 in
set_option maxHeartbeats 400000 in
theorem eqEndingS_same (a b : Option Addr) (n c c' : Nat) (xs : List EndingV) (w : World) (ha : RdEnding w a n xs) (hb : RdEnding w b n xs) :
    Calls Tryd.prog 12 #[.slice a n c, .slice b n c'] w fun e w' => e = .returned (.bool true) ∧ Ext w w' := by
  have hm := ha.le
  go_enter Tryd.func12, Tryd.ntmps12
  go_wp2
  go_loopw [5] (fun i wr => ∃ k : Nat, k ≤ n ∧ i = .int .i64 k ∧ Ext w wr) (fun i _ => n - (intOf i).toNat)
  case atStart => exact ⟨0, Nat.zero_le _, rfl, Ext.refl _⟩
  case round =>
    obtain ⟨k, hk, rfl, hx⟩ := hrel
    by_cases hlt : k < n
    · obtain ⟨b1, o1, rfl, hbl1, hA⟩ := (ha.ext hx).at (by omega)
      obtain ⟨b2, o2, rfl, hbl2, hB⟩ := (hb.ext hx).at (by omega)
      obtain ⟨hc0, hc1, hc2⟩ := hA k hlt
      obtain ⟨hd0, hd1, hd2⟩ := hB k hlt
      clear hA hB
      have hki : (k : Int) < n := by omega
      go_wp2
      go_still_tail 8, (by kernel_rfl)
      go_wp2_with fail
      refine (eqEnding_same (nthEnding xs k) _).mono ?_
      rintro e w1 ⟨rfl, hx1⟩
      go_wp2
      go_roundw
      case rel => exact ⟨k + 1, by omega, by go_num, hx.drew.trans hx1⟩
      case measure => simp [intOf]; omega
    · obtain rfl : k = n := by omega
      go_wp2
      go_ret
      exact ⟨rfl, hx⟩

theorem take_setEnding (xs : List EndingV) (k n : Nat) (zs : List Value) (hn : xs.length = n) (h : k < n) (hz : zs.length = 3) :
    (((((xs.take k).flatMap layEnding.cells ++ (List.replicate (n - k) zs).flatten).set (k * 3) (.string (nthEnding xs k).old)).set (k * 3 + 1) (.string (nthEnding xs k).new)).set (k * 3 + 2) (.int .i64 (nthEnding xs k).kase)) = (xs.take (k + 1)).flatMap layEnding.cells ++ (List.replicate (n - (k + 1)) zs).flatten := by
  subst hn
  have e : xs.length - k = (xs.length - (k + 1)) + 1 := by omega
  rw [e, List.replicate_succ, List.flatten_cons]
  have hl : ((xs.take k).flatMap layEnding.cells).length = k * 3 := by rw [flat_len]; simp [layEnding]; omega
  match zs, hz with
  | [z0, z1, z2], _ =>
    have t := List.take_succ_eq_append_getElem h
    simp only [List.cons_append, List.nil_append]
    repeat rw [List.set_append_right _ _ (by omega), hl]
    rw [t, List.flatMap_append, nthEnding_eq h, List.append_assoc]
    simp [layEnding]

theorem Tryd.info_Ending : (Tryd.prog.info? 63).map (fun i => (i.zero, i.size, i.bytes)) = some (some (.agg #[.string ⟨#[]⟩, .string ⟨#[]⟩, .int .i64 0]), 3, 40) := by kernel_rfl

set_option maxRecDepth 100000 in
set_option maxHeartbeats 1000000 in
theorem toEndingS_any (a : Option Addr) (n c : Nat) (xs : List EndingV) (w : World) (hr : RdEnding w a n xs) :
    Calls Tryd.prog 9 #[.slice a n c] w fun e w' => ∃ v, e = .returned v ∧ NewEnding w w' xs v := by
  obtain ⟨i, hi, hz0, hz1, hz2⟩ := info_parts Tryd.info_Ending
  have hm := hr.le
  go_enter Tryd.func9, Tryd.ntmps9
  go_wp2_with (first | (at_make; refine wpList_make_full _ rfl _ _ 27 rfl w.heap.size 63 i (.agg #[.string ⟨#[]⟩, .string ⟨#[]⟩, .int .i64 0]) 3 Tryd.underlying27 hi hz0 hz1 _ _ _ _ n rfl rfl rfl rfl (by rw [hz2]; omega) (by simp [maxLen]; omega) (Nat.le_refl _) ?_; intro w1 hown hgrow))
  go_loopw [4] (fun i wr => ∃ k : Nat, k ≤ n ∧ i = .int .i64 k ∧ wr.ownsRow w.heap.size 63 3 (.slice (some ⟨w.heap.size, 0, none⟩) n n) n ((xs.take k).flatMap layEnding.cells ++ (List.replicate (n - k) [.string ⟨#[]⟩, .string ⟨#[]⟩, .int .i64 0]).flatten) ∧ Ext w wr) (fun i _ => n - (intOf i).toNat)
  case atStart => exact ⟨0, Nat.zero_le _, rfl, by have e := made_rep (.agg #[.string ⟨#[]⟩, .string ⟨#[]⟩, .int .i64 0]) 3 n rfl (by decide); rw [e] at hown; simpa [Value.cells] using hown, (Ext.refl _).grown0 hgrow⟩
  case round =>
    obtain ⟨k, hk, rfl, ho, hb⟩ := hrel
    by_cases hlt : k < n
    · obtain ⟨b, o, rfl, hbl, hA⟩ := (hr.ext hb).at (by omega)
      obtain ⟨hc0, hc1, hc2⟩ := hA k hlt
      clear hA
      go_wp2_with fail
      refine (toEnding_any (nthEnding xs k) _).mono ?_
      rintro e w1 ⟨rfl, hx1⟩
      rw [valEnding]
      have ho1 := own_ext ho hx1
      have hf0 := ho1.frozenAt (k * 3)
      obtain ⟨u0, hw0⟩ := own_oldG ho1 (k * 3) (by omega)
      have hs0 := (ho1.stored (k * 3) (.string (nthEnding xs k).old)).1
      have hf1 := ho1.frozenAt (k * 3 + 1)
      obtain ⟨u1, hw1⟩ := own_oldG ho1 (k * 3 + 1) (by omega)
      have hs1 := (hs0.stored (k * 3 + 1) (.string (nthEnding xs k).new)).1
      have hf2 := ho1.frozenAt (k * 3 + 2)
      obtain ⟨u2, hw2⟩ := own_oldG ho1 (k * 3 + 2) (by omega)
      have hs2 := (hs1.stored (k * 3 + 2) (.int .i64 (nthEnding xs k).kase)).1
      have hset := take_setEnding xs k n [.string ⟨#[]⟩, .string ⟨#[]⟩, .int .i64 0] hr.len hlt rfl
      have HS := Lib.hid (And.intro hset (And.intro hs2 (((((hb.trans hx1).setCell (p := ⟨w.heap.size, k * 3, none⟩) (Nat.le_refl _) (.string (nthEnding xs k).old)).setCell (p := ⟨w.heap.size, k * 3 + 1, none⟩) (Nat.le_refl _) (.string (nthEnding xs k).new)).setCell (p := ⟨w.heap.size, k * 3 + 2, none⟩) (Nat.le_refl _) (.int .i64 (nthEnding xs k).kase)))))
      clear hset hs0 hs1 hs2 ho hb
      go_wp2
      go_roundw
      case rel => exact ⟨k + 1, by omega, by go_num, by rw [← HS.out.1]; exact HS.out.2.1, HS.out.2.2⟩
      case measure => simp [intOf]; omega
    · obtain rfl : k = n := by omega
      have HS := Lib.hid (And.intro ho hb)
      clear ho hb
      go_wp2
      go_ret
      refine ⟨_, rfl, _, k, k, rfl, ⟨⟨?_, hm⟩, hr.2⟩, HS.out.2⟩
      have h := HS.out.1
      rw [List.take_of_length_le (by rw [hr.len]; exact Nat.le_refl _), Nat.sub_self, List.replicate_zero, List.flatten_nil, List.append_nil] at h
      exact h

end Go.Proofs.YtcppnaopegendaaDoor

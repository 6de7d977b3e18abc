/-
  Name: how it lies; the statements' own helpers on such values and slices of them.
-/
import Derived.Test.YteencdgaldhanaaGreatDoorNSpan
import Derived.StillTailTactics
namespace Go.Proofs.YteencdgaldhanaaGreatDoor
open Go.RowKit

structure NameV where
  text : ByteArray
  lang : ByteArray
  status : Int
  from_ : Int
  to_ : Int

def valName (x : NameV) : Value := .agg #[.string x.text, .string x.lang, .int .i64 x.status, .int .i64 x.from_, .int .i64 x.to_]
def layName : Lay NameV where
  cells x := [.string x.text, .string x.lang, .int .i64 x.status, .int .i64 x.from_, .int .i64 x.to_]
  sz := 5
  len _ := rfl
  one _ u hu := by simp at hu; rcases hu with rfl | rfl | rfl | rfl | rfl <;> rfl
  pos := by decide
def nthName (xs : List NameV) (k : Nat) : NameV := xs.getD k ⟨ByteArray.empty, ByteArray.empty, 0, 0, 0⟩
theorem nthName_eq {xs : List NameV} {k : Nat} (h : k < xs.length) : nthName xs k = xs[k] := by simp [nthName, h]
theorem nthName_mem {xs : List NameV} {k : Nat} (h : k < xs.length) : nthName xs k ∈ xs := by rw [nthName_eq h]; exact List.getElem_mem h
def okName (x : NameV) : Prop := x.text.size ≤ 1073741824 ∧ x.lang.size ≤ 1073741824
def ok0Name (x : NameV) : Prop := x.text.size ≤ 9223372036854775807 ∧ x.lang.size ≤ 9223372036854775807
def sizeName (x : NameV) : Nat := x.text.size + x.lang.size
def RdName (w : World) (a : Option Addr) (n : Nat) (xs : List NameV) : Prop := RdG layName w a n xs ∧ ∀ x ∈ xs, okName x
theorem RdName.ext {w w' : World} {a : Option Addr} {n : Nat} {xs : List NameV} (h : RdName w a n xs) (x : Ext w w') : RdName w' a n xs := ⟨h.1.ext x, h.2⟩
theorem RdName.len {w : World} {a : Option Addr} {n : Nat} {xs : List NameV} (h : RdName w a n xs) : xs.length = n := h.1.len
theorem RdName.le {w : World} {a : Option Addr} {n : Nat} {xs : List NameV} (h : RdName w a n xs) : n ≤ 4294967296 := h.1.le
theorem RdName.ok {w : World} {a : Option Addr} {n : Nat} {xs : List NameV} (h : RdName w a n xs) {k : Nat} (hk : k < n) : okName (nthName xs k) := h.2 _ (nthName_mem (by rw [h.len]; exact hk))
theorem RdName.at {w : World} {a : Option Addr} {n : Nat} {xs : List NameV} (h : RdName w a n xs) (hn : 0 < n) :
    ∃ b o, a = some ⟨b, o, none⟩ ∧ b < w.heap.size ∧ ∀ k, k < n → w.cell? ⟨b, o + k * 5, none⟩ = some (.string (nthName xs k).text) ∧ w.cell? ⟨b, o + k * 5 + 1, none⟩ = some (.string (nthName xs k).lang) ∧ w.cell? ⟨b, o + k * 5 + 2, none⟩ = some (.int .i64 (nthName xs k).status) ∧ w.cell? ⟨b, o + k * 5 + 3, none⟩ = some (.int .i64 (nthName xs k).from_) ∧ w.cell? ⟨b, o + k * 5 + 4, none⟩ = some (.int .i64 (nthName xs k).to_) := by
  obtain ⟨b, o, ha, hb, hc⟩ := h.1.at hn
  have hl := h.len
  exact ⟨b, o, ha, hb, fun k hk => ⟨hc k _ (List.getElem?_eq_getElem (by omega)) 0 _ (by rw [nthName_eq (by omega)]; rfl), by rw [Nat.add_assoc]; exact hc k _ (List.getElem?_eq_getElem (by omega)) 1 _ (by rw [nthName_eq (by omega)]; rfl), by rw [Nat.add_assoc]; exact hc k _ (List.getElem?_eq_getElem (by omega)) 2 _ (by rw [nthName_eq (by omega)]; rfl), by rw [Nat.add_assoc]; exact hc k _ (List.getElem?_eq_getElem (by omega)) 3 _ (by rw [nthName_eq (by omega)]; rfl), by rw [Nat.add_assoc]; exact hc k _ (List.getElem?_eq_getElem (by omega)) 4 _ (by rw [nthName_eq (by omega)]; rfl)⟩⟩
def OwnName (w : World) (B : Nat) (a : Option Addr) (n c : Nat) (xs : List NameV) : Prop := OwnG layName 62 w B a n c xs ∧ ∀ x ∈ xs, okName x
theorem OwnName.rd {w : World} {B n c : Nat} {a : Option Addr} {xs : List NameV} (h : OwnName w B a n c xs) : RdName w a n xs := ⟨h.1.rd, h.2⟩
theorem OwnName.ext {w w' : World} {B n c : Nat} {a : Option Addr} {xs : List NameV} (h : OwnName w B a n c xs) (x : Ext w w') : OwnName w' B a n c xs := ⟨h.1.ext x, h.2⟩
theorem OwnName.mono {w : World} {B B' n c : Nat} {a : Option Addr} {xs : List NameV} (h : OwnName w B a n c xs) (hb : B' ≤ B) : OwnName w B' a n c xs := ⟨h.1.mono hb, h.2⟩
theorem OwnName.cap {w : World} {B n c : Nat} {a : Option Addr} {xs : List NameV} (h : OwnName w B a n c xs) : n ≤ c := by
  rcases h.1.1.2 with ⟨h1, h2⟩ | ⟨g, cap, cur, hv, _, _, hc, _⟩
  · omega
  · cases hv; exact hc
def NewName (w w' : World) (xs : List NameV) (v : Value) : Prop := ∃ a n c, v = .slice a n c ∧ OwnName w' w.heap.size a n c xs ∧ Ext w w'
/-- What is left of a measure. -/
def leftName (m : Nat) (left r : Int) : Prop := (0 ≤ r → (m : Int) + r = left) ∧ (r < 0 → r = -1)

set_option maxRecDepth 100000 in
set_option maxHeartbeats 400000 in
theorem toName_any (x : NameV) (w : World) :
    Calls Tryz.prog 44 #[valName x] w fun e w' => e = .returned (valName x) ∧ Ext w w' := by
  obtain ⟨v0, v1, v2, v3, v4⟩ := x
  simp only [valName]
  go_enter Tryz.func44, Tryz.ntmps44
  go_wp2_with fail
  refine (toSpan_any ⟨v3, v4⟩ _).mono ?_
  rintro e w1 ⟨rfl, e1⟩
  rw [valSpan]
  have b0 : _ = some (Value.string v0) := box_keptG e1 0
  have b1 : _ = some (Value.string v1) := box_keptG e1 1
  have b2 : _ = some (Value.int .i64 v2) := box_keptG e1 2
  have b3 : _ = some (Value.int .i64 0) := box_keptG e1 3
  have b4 : _ = some (Value.int .i64 0) := box_keptG e1 4
  have f0 := box_frozen e1 0
  have f1 := box_frozen e1 1
  have f2 := box_frozen e1 2
  have f3 := box_frozen e1 3
  have f4 := box_frozen e1 4
  have g0 := box_frozen (((Ext.refl _).alloc _).trans e1) 0
  have g1 := box_frozen (((Ext.refl _).alloc _).trans e1) 1
  have g2 := box_frozen (((Ext.refl _).alloc _).trans e1) 2
  have g3 := box_frozen (((Ext.refl _).alloc _).trans e1) 3
  have g4 := box_frozen (((Ext.refl _).alloc _).trans e1) 4
  have k0 : _ = some (Value.string ⟨#[]⟩) := box_keptG (((Ext.refl _).alloc _).trans e1) 0
  have k1 : _ = some (Value.string ⟨#[]⟩) := box_keptG (((Ext.refl _).alloc _).trans e1) 1
  have k2 : _ = some (Value.int .i64 0) := box_keptG (((Ext.refl _).alloc _).trans e1) 2
  have k3 : _ = some (Value.int .i64 0) := box_keptG (((Ext.refl _).alloc _).trans e1) 3
  have k4 : _ = some (Value.int .i64 0) := box_keptG (((Ext.refl _).alloc _).trans e1) 4
  simp only [World.size_alloc] at b0 b1 b2 b3 b4 f0 f1 f2 f3 f4 g0 g1 g2 g3 g4 k0 k1 k2 k3 k4
  go_wp2
  exact bodyPost_ret (v := .agg #[.string v0, .string v1, .int .i64 v2, .int .i64 v3, .int .i64 v4]) (by simp [results, Tryz.results44, go_sem, k0, k1, k2, k3, k4]) rfl ⟨rfl, (((((((((((Ext.refl w).alloc _).alloc _).alloc _).trans e1).setCell (p := ⟨w.heap.size + 1 + 1, 3, none⟩) (Nat.le_add_right _ 2) (.int .i64 v3)).setCell (p := ⟨w.heap.size + 1 + 1, 4, none⟩) (Nat.le_add_right _ 2) (.int .i64 v4)).setCell (p := ⟨w.heap.size + 1, 0, none⟩) (Nat.le_add_right _ 1) (.string v0)).setCell (p := ⟨w.heap.size + 1, 1, none⟩) (Nat.le_add_right _ 1) (.string v1)).setCell (p := ⟨w.heap.size + 1, 2, none⟩) (Nat.le_add_right _ 1) (.int .i64 v2)).setCell (p := ⟨w.heap.size + 1, 3, none⟩) (Nat.le_add_right _ 1) (.int .i64 v3)).setCell (p := ⟨w.heap.size + 1, 4, none⟩) (Nat.le_add_right _ 1) (.int .i64 v4)⟩

set_option maxHeartbeats 400000 in
theorem eqName_same (x : NameV) (w : World) :
    Calls Tryz.prog 49 #[valName x, valName x] w fun e w' => e = .returned (.bool true) ∧ Ext w w' := by
  obtain ⟨v0, v1, v2, v3, v4⟩ := x
  simp only [valName]
  go_enter Tryz.func49, Tryz.ntmps49
  go_wp2_with fail
  refine (eqSpan_same ⟨v3, v4⟩ _).mono ?_
  rintro e w1 ⟨rfl, e1⟩
  go_wp2
  go_ret
  exact ⟨rfl, (((Ext.refl _).alloc _).alloc _).trans e1⟩

set_option maxHeartbeats 400000 in
theorem szName_any (x : NameV) (left : Int) (w : World) (hx : ok0Name x) (h0 : 0 ≤ left) (h1 : left ≤ 1048576) :
    Calls Tryz.prog 41 #[valName x, .int .i64 left] w fun e w' => ∃ r, e = .returned (.int .i64 r) ∧ leftName (sizeName x) left r ∧ Ext w w' := by
  obtain ⟨v0, v1, v2, v3, v4⟩ := x
  obtain ⟨hx0, hx1⟩ := hx
  simp only [valName, sizeName] at hx0 hx1 ⊢
  by_cases c0 : left < v0.size
  · go_enter Tryz.func41, Tryz.ntmps41
    go_wp2
    go_ret
    exact ⟨-1, rfl, ⟨fun h => by omega, fun _ => rfl⟩, by repeat (first | exact Ext.refl _ | apply Ext.alloc)⟩
  · by_cases c1 : left < (v0.size : Int) + v1.size
    · go_enter Tryz.func41, Tryz.ntmps41
      go_wp2
      go_ret
      exact ⟨-1, rfl, ⟨fun h => by omega, fun _ => rfl⟩, by repeat (first | exact Ext.refl _ | apply Ext.alloc)⟩
    · go_enter Tryz.func41, Tryz.ntmps41
      go_wp2
      go_ret
      exact ⟨_, rfl, ⟨fun h => by omega, fun h => by omega⟩, by repeat (first | exact Ext.refl _ | apply Ext.alloc)⟩

theorem leftName_ok {x : NameV} {left r : Int} (h : leftName (sizeName x) left r) (h0 : 0 ≤ r) (h1 : left ≤ 1048576) : okName x := by
  have := h.1 h0
  unfold sizeName at this
  unfold okName
  omega

/-- Values that came in; sizes not bounded by us. -/
def InName (w : World) (a : Option Addr) (n : Nat) (xs : List NameV) : Prop := xs.length = n ∧ n ≤ 9223372036854775807 ∧ Rd w a (xs.flatMap layName.cells) ∧ ∀ x ∈ xs, ok0Name x
def totName (xs : List NameV) : Nat := (xs.map sizeName).sum
theorem totName_take {xs : List NameV} {k : Nat} (hk : k < xs.length) : totName (xs.take (k + 1)) = totName (xs.take k) + sizeName (nthName xs k) := by
  rw [totName, totName, List.take_succ_eq_append_getElem hk, List.map_append, List.sum_append, nthName_eq hk]
  simp
theorem totName_le {xs : List NameV} {x : NameV} (h : x ∈ xs) : sizeName x ≤ totName xs := by
  induction xs with
  | nil => simp at h
  | cons y ys ih =>
    rw [totName, List.map_cons, List.sum_cons]
    rcases List.mem_cons.1 h with rfl | h
    · omega
    · have := ih h
      rw [totName] at this
      omega
theorem InName.rd {w : World} {a : Option Addr} {n : Nat} {xs : List NameV} (h : InName w a n xs) (hn : n ≤ 4294967296) (hs : ∀ x ∈ xs, okName x) : RdName w a n xs := ⟨⟨h.1, hn, h.2.2.1⟩, hs⟩
theorem InName.ext {w w' : World} {a : Option Addr} {n : Nat} {xs : List NameV} (h : InName w a n xs) (x : Ext w w') : InName w' a n xs := ⟨h.1, h.2.1, h.2.2.1.ext x, h.2.2.2⟩
theorem InName.at {w : World} {a : Option Addr} {n : Nat} {xs : List NameV} (h : InName w a n xs) (hn : 0 < n) :
    ∃ b o, a = some ⟨b, o, none⟩ ∧ b < w.heap.size ∧ ∀ k, k < n → w.cell? ⟨b, o + k * 5, none⟩ = some (.string (nthName xs k).text) ∧ w.cell? ⟨b, o + k * 5 + 1, none⟩ = some (.string (nthName xs k).lang) ∧ w.cell? ⟨b, o + k * 5 + 2, none⟩ = some (.int .i64 (nthName xs k).status) ∧ w.cell? ⟨b, o + k * 5 + 3, none⟩ = some (.int .i64 (nthName xs k).from_) ∧ w.cell? ⟨b, o + k * 5 + 4, none⟩ = some (.int .i64 (nthName xs k).to_) := by
  have hl := h.1
  obtain ⟨b, o, ha, hb, hc⟩ := h.2.2.1.pos (by rw [flat_len, hl]; exact Nat.mul_pos hn (by decide))
  have hcc : ∀ k, k < n → ∀ j u, (layName.cells (nthName xs k))[j]? = some u → w.cell? ⟨b, o + (k * 5 + j), none⟩ = some u := by
    intro k hk j u hu
    refine hc _ u ?_
    have := flat_get layName xs k j (nthName xs k) (by rw [nthName_eq (by omega)]; exact List.getElem?_eq_getElem (by omega)) (List.getElem?_eq_some_iff.1 hu).1
    exact this.trans hu
  exact ⟨b, o, ha, hb, fun k hk => ⟨hcc k hk 0 _ rfl, by rw [Nat.add_assoc]; exact hcc k hk 1 _ rfl, by rw [Nat.add_assoc]; exact hcc k hk 2 _ rfl, by rw [Nat.add_assoc]; exact hcc k hk 3 _ rfl, by rw [Nat.add_assoc]; exact hcc k hk 4 _ rfl⟩⟩
/-- What counting leaves. -/
theorem leftName_rd {w : World} {a : Option Addr} {n : Nat} {xs : List NameV} {left r : Int} (h : InName w a n xs) (hl : Left n (totName xs) left r) (h0 : 0 ≤ r) (h1 : left ≤ 1048576) : RdName w a n xs := by
  have := hl.1 h0
  exact h.rd (by omega) fun x hx => by have := totName_le hx; unfold sizeName at this; unfold okName; omega

set_option maxHeartbeats 400000 in
theorem szNameS_any (a : Option Addr) (n c : Nat) (left : Int) (xs : List NameV) (w : World) (hr : InName w a n xs) (h0 : 0 ≤ left) (h1 : left ≤ 1048576) :
    Calls Tryz.prog 6 #[.slice a n c, .int .i64 left] w fun e w' => ∃ r, e = .returned (.int .i64 r) ∧ Left n (totName xs) left r ∧ Ext w w' := by
  have hm := hr.2.1
  by_cases hbig : left < n
  · go_enter Tryz.func6, Tryz.ntmps6
    go_wp2
    go_ret
    exact ⟨-1, rfl, ⟨by omega, fun _ => rfl⟩, Ext.refl _⟩
  · go_enter Tryz.func6, Tryz.ntmps6
    go_wp2
    go_loopw [1, 5] (fun u i wr => ∃ (k : Nat) (r : Int), k ≤ n ∧ i = .int .i64 k ∧ u = .int .i64 r ∧ 0 ≤ r ∧ (n : Int) + totName (xs.take k) + r = left ∧ Ext w wr) (fun _ i _ => n - (intOf i).toNat)
    case atStart => exact ⟨0, left - n, Nat.zero_le _, rfl, rfl, by omega, by simp [totName]; omega, Ext.refl _⟩
    case round =>
      obtain ⟨k, r, hk, rfl, rfl, hr0, hsum, hx⟩ := hrel
      have HS := Lib.hid hsum
      have hrl : r ≤ 1048576 := by omega
      clear hsum
      by_cases hlt : k < n
      · obtain ⟨b, o, rfl, hbl, hc⟩ := (hr.ext hx).at (by omega)
        obtain ⟨hc0, hc1, hc2, hc3, hc4⟩ := hc k hlt
        have hok := hr.2.2.2 _ (nthName_mem (k := k) (by rw [hr.1]; exact hlt))
        have htk := totName_take (xs := xs) (k := k) (by rw [hr.1]; exact hlt)
        have HT := Lib.hid htk
        clear hc htk
        go_wp2_with fail
        refine (szName_any (nthName xs k) r _ hok (by omega) (by omega)).mono ?_
        rintro e w1 ⟨r1, rfl, hl1, hx1⟩
        by_cases hneg : r1 < 0
        · go_wp2
          go_ret
          exact ⟨-1, rfl, ⟨by omega, fun _ => rfl⟩, hx.trans hx1⟩
        · go_wp2
          go_roundw
          case rel =>
            have h1 := HS.out
            have h2 := hl1.1 (by omega)
            exact ⟨k + 1, _, by omega, by go_num, rfl, by omega, by rw [HT.out]; omega, hx.trans hx1⟩
          case measure => simp [intOf]; omega
      · obtain rfl : k = n := by omega
        go_wp2
        go_ret
        refine ⟨r, rfl, ⟨fun _ => ?_, by omega⟩, hx⟩
        have := HS.out
        rwa [List.take_of_length_le (by rw [hr.1]; exact Nat.le_refl _)] at this

set_option maxRecDepth 100000 in
set_option maxHeartbeats 400000 in
theorem eqNameS_same (a b : Option Addr) (n c c' : Nat) (xs : List NameV) (w : World) (ha : RdName w a n xs) (hb : RdName w b n xs) :
    Calls Tryz.prog 11 #[.slice a n c, .slice b n c'] w fun e w' => e = .returned (.bool true) ∧ Ext w w' := by
  have hm := ha.le
  go_enter Tryz.func11, Tryz.ntmps11
  go_wp2
  go_loopw [5] (fun i wr => ∃ k : Nat, k ≤ n ∧ i = .int .i64 k ∧ Ext w wr) (fun i _ => n - (intOf i).toNat)
  case atStart => exact ⟨0, Nat.zero_le _, rfl, Ext.refl _⟩
  case round =>
    obtain ⟨k, hk, rfl, hx⟩ := hrel
    by_cases hlt : k < n
    · obtain ⟨b1, o1, rfl, hbl1, hA⟩ := (ha.ext hx).at (by omega)
      obtain ⟨b2, o2, rfl, hbl2, hB⟩ := (hb.ext hx).at (by omega)
      obtain ⟨hc0, hc1, hc2, hc3, hc4⟩ := hA k hlt
      obtain ⟨hd0, hd1, hd2, hd3, hd4⟩ := hB k hlt
      clear hA hB
      have hki : (k : Int) < n := by omega
      go_wp2
      go_still_tail 8, (by kernel_rfl)
      go_wp2_with fail
      refine (eqName_same (nthName xs k) _).mono ?_
      rintro e w1 ⟨rfl, hx1⟩
      go_wp2
      go_roundw
      case rel => exact ⟨k + 1, by omega, by go_num, hx.drew.trans hx1⟩
      case measure => simp [intOf]; omega
    · obtain rfl : k = n := by omega
      go_wp2
      go_ret
      exact ⟨rfl, hx⟩

theorem take_setName (xs : List NameV) (k n : Nat) (zs : List Value) (hn : xs.length = n) (h : k < n) (hz : zs.length = 5) :
    (((((((xs.take k).flatMap layName.cells ++ (List.replicate (n - k) zs).flatten).set (k * 5) (.string (nthName xs k).text)).set (k * 5 + 1) (.string (nthName xs k).lang)).set (k * 5 + 2) (.int .i64 (nthName xs k).status)).set (k * 5 + 3) (.int .i64 (nthName xs k).from_)).set (k * 5 + 4) (.int .i64 (nthName xs k).to_)) = (xs.take (k + 1)).flatMap layName.cells ++ (List.replicate (n - (k + 1)) zs).flatten := by
  subst hn
  have e : xs.length - k = (xs.length - (k + 1)) + 1 := by omega
  rw [e, List.replicate_succ, List.flatten_cons]
  have hl : ((xs.take k).flatMap layName.cells).length = k * 5 := by rw [flat_len]; simp [layName]; omega
  match zs, hz with
  | [z0, z1, z2, z3, z4], _ =>
    have t := List.take_succ_eq_append_getElem h
    simp only [List.cons_append, List.nil_append]
    repeat rw [List.set_append_right _ _ (by omega), hl]
    rw [t, List.flatMap_append, nthName_eq h, List.append_assoc]
    simp [layName]

theorem Tryz.info_Name : (Tryz.prog.info? 62).map (fun i => (i.zero, i.size, i.bytes)) = some (some (.agg #[.string ⟨#[]⟩, .string ⟨#[]⟩, .int .i64 0, .int .i64 0, .int .i64 0]), 5, 56) := by kernel_rfl

set_option maxRecDepth 100000 in
set_option maxHeartbeats 1000000 in
theorem toNameS_any (a : Option Addr) (n c : Nat) (xs : List NameV) (w : World) (hr : RdName w a n xs) :
    Calls Tryz.prog 8 #[.slice a n c] w fun e w' => ∃ v, e = .returned v ∧ NewName w w' xs v := by
  obtain ⟨i, hi, hz0, hz1, hz2⟩ := info_parts Tryz.info_Name
  have hm := hr.le
  go_enter Tryz.func8, Tryz.ntmps8
  go_wp2_with (first | (at_make; refine wpList_make_full _ rfl _ _ 27 rfl w.heap.size 62 i (.agg #[.string ⟨#[]⟩, .string ⟨#[]⟩, .int .i64 0, .int .i64 0, .int .i64 0]) 5 Tryz.underlying27 hi hz0 hz1 _ _ _ _ n rfl rfl rfl rfl (by rw [hz2]; omega) (by simp [maxLen]; omega) (Nat.le_refl _) ?_; intro w1 hown hgrow))
  go_loopw [4] (fun i wr => ∃ k : Nat, k ≤ n ∧ i = .int .i64 k ∧ wr.ownsRow w.heap.size 62 5 (.slice (some ⟨w.heap.size, 0, none⟩) n n) n ((xs.take k).flatMap layName.cells ++ (List.replicate (n - k) [.string ⟨#[]⟩, .string ⟨#[]⟩, .int .i64 0, .int .i64 0, .int .i64 0]).flatten) ∧ Ext w wr) (fun i _ => n - (intOf i).toNat)
  case atStart => exact ⟨0, Nat.zero_le _, rfl, by have e := made_rep (.agg #[.string ⟨#[]⟩, .string ⟨#[]⟩, .int .i64 0, .int .i64 0, .int .i64 0]) 5 n rfl (by decide); rw [e] at hown; simpa [Value.cells] using hown, (Ext.refl _).grown0 hgrow⟩
  case round =>
    obtain ⟨k, hk, rfl, ho, hb⟩ := hrel
    by_cases hlt : k < n
    · obtain ⟨b, o, rfl, hbl, hA⟩ := (hr.ext hb).at (by omega)
      obtain ⟨hc0, hc1, hc2, hc3, hc4⟩ := hA k hlt
      clear hA
      go_wp2_with fail
      refine (toName_any (nthName xs k) _).mono ?_
      rintro e w1 ⟨rfl, hx1⟩
      rw [valName]
      have ho1 := own_ext ho hx1
      have hf0 := ho1.frozenAt (k * 5)
      obtain ⟨u0, hw0⟩ := own_oldG ho1 (k * 5) (by omega)
      have hs0 := (ho1.stored (k * 5) (.string (nthName xs k).text)).1
      have hf1 := ho1.frozenAt (k * 5 + 1)
      obtain ⟨u1, hw1⟩ := own_oldG ho1 (k * 5 + 1) (by omega)
      have hs1 := (hs0.stored (k * 5 + 1) (.string (nthName xs k).lang)).1
      have hf2 := ho1.frozenAt (k * 5 + 2)
      obtain ⟨u2, hw2⟩ := own_oldG ho1 (k * 5 + 2) (by omega)
      have hs2 := (hs1.stored (k * 5 + 2) (.int .i64 (nthName xs k).status)).1
      have hf3 := ho1.frozenAt (k * 5 + 3)
      obtain ⟨u3, hw3⟩ := own_oldG ho1 (k * 5 + 3) (by omega)
      have hs3 := (hs2.stored (k * 5 + 3) (.int .i64 (nthName xs k).from_)).1
      have hf4 := ho1.frozenAt (k * 5 + 4)
      obtain ⟨u4, hw4⟩ := own_oldG ho1 (k * 5 + 4) (by omega)
      have hs4 := (hs3.stored (k * 5 + 4) (.int .i64 (nthName xs k).to_)).1
      have hset := take_setName xs k n [.string ⟨#[]⟩, .string ⟨#[]⟩, .int .i64 0, .int .i64 0, .int .i64 0] hr.len hlt rfl
      have HS := Lib.hid (And.intro hset (And.intro hs4 (((((((hb.trans hx1).setCell (p := ⟨w.heap.size, k * 5, none⟩) (Nat.le_refl _) (.string (nthName xs k).text)).setCell (p := ⟨w.heap.size, k * 5 + 1, none⟩) (Nat.le_refl _) (.string (nthName xs k).lang)).setCell (p := ⟨w.heap.size, k * 5 + 2, none⟩) (Nat.le_refl _) (.int .i64 (nthName xs k).status)).setCell (p := ⟨w.heap.size, k * 5 + 3, none⟩) (Nat.le_refl _) (.int .i64 (nthName xs k).from_)).setCell (p := ⟨w.heap.size, k * 5 + 4, none⟩) (Nat.le_refl _) (.int .i64 (nthName xs k).to_)))))
      clear hset hs0 hs1 hs2 hs3 hs4 ho hb
      go_wp2
      go_roundw
      case rel => exact ⟨k + 1, by omega, by go_num, by rw [← HS.out.1]; exact HS.out.2.1, HS.out.2.2⟩
      case measure => simp [intOf]; omega
    · obtain rfl : k = n := by omega
      have HS := Lib.hid (And.intro ho hb)
      clear ho hb
      go_wp2
      go_ret
      refine ⟨_, rfl, _, k, k, rfl, ⟨⟨?_, hm⟩, hr.2⟩, HS.out.2⟩
      have h := HS.out.1
      rw [List.take_of_length_le (by rw [hr.len]; exact Nat.le_refl _), Nat.sub_self, List.replicate_zero, List.flatten_nil, List.append_nil] at h
      exact h

end Go.Proofs.YteencdgaldhanaaGreatDoor

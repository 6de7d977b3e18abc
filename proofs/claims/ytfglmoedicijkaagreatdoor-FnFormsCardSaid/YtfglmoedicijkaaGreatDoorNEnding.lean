/-
  Ending: how it lies; the statements' own helpers on such values and slices of them.
-/
import Derived.Test.YtfglmoedicijkaaGreatDoorS
import Derived.StillTailTactics
namespace Go.Proofs.YtfglmoedicijkaaGreatDoor
open Go.RowKit

structure EndingV where
  old : ByteArray
  new : ByteArray
  kase : Int

def valEnding (x : EndingV) : Value := .agg #[.string x.old, .string x.new, .int .i64 x.kase]
def layEnding : Lay EndingV where
  cells x := [.string x.old, .string x.new, .int .i64 x.kase]
  sz := 3
  len _ := rfl
  one _ u hu := by simp at hu; rcases hu with rfl | rfl | rfl <;> rfl
  pos := by decide
def nthEnding (xs : List EndingV) (k : Nat) : EndingV := xs.getD k ⟨ByteArray.empty, ByteArray.empty, 0⟩
theorem nthEnding_eq {xs : List EndingV} {k : Nat} (h : k < xs.length) : nthEnding xs k = xs[k] := by simp [nthEnding, h]
theorem nthEnding_mem {xs : List EndingV} {k : Nat} (h : k < xs.length) : nthEnding xs k ∈ xs := by rw [nthEnding_eq h]; exact List.getElem_mem h
def okEnding (x : EndingV) : Prop := x.old.size ≤ 1073741824 ∧ x.new.size ≤ 1073741824
def ok0Ending (x : EndingV) : Prop := x.old.size ≤ 9223372036854775807 ∧ x.new.size ≤ 9223372036854775807
def sizeEnding (x : EndingV) : Nat := x.old.size + x.new.size
def RdEnding (w : World) (a : Option Addr) (n : Nat) (xs : List EndingV) : Prop := RdG layEnding w a n xs ∧ ∀ x ∈ xs, okEnding x
theorem RdEnding.ext {w w' : World} {a : Option Addr} {n : Nat} {xs : List EndingV} (h : RdEnding w a n xs) (x : Ext w w') : RdEnding w' a n xs := ⟨h.1.ext x, h.2⟩
theorem RdEnding.len {w : World} {a : Option Addr} {n : Nat} {xs : List EndingV} (h : RdEnding w a n xs) : xs.length = n := h.1.len
theorem RdEnding.le {w : World} {a : Option Addr} {n : Nat} {xs : List EndingV} (h : RdEnding w a n xs) : n ≤ 4294967296 := h.1.le
theorem RdEnding.ok {w : World} {a : Option Addr} {n : Nat} {xs : List EndingV} (h : RdEnding w a n xs) {k : Nat} (hk : k < n) : okEnding (nthEnding xs k) := h.2 _ (nthEnding_mem (by rw [h.len]; exact hk))
theorem RdEnding.at {w : World} {a : Option Addr} {n : Nat} {xs : List EndingV} (h : RdEnding w a n xs) (hn : 0 < n) :
    ∃ b o, a = some ⟨b, o, none⟩ ∧ b < w.heap.size ∧ ∀ k, k < n → w.cell? ⟨b, o + k * 3, none⟩ = some (.string (nthEnding xs k).old) ∧ w.cell? ⟨b, o + k * 3 + 1, none⟩ = some (.string (nthEnding xs k).new) ∧ w.cell? ⟨b, o + k * 3 + 2, none⟩ = some (.int .i64 (nthEnding xs k).kase) := by
  obtain ⟨b, o, ha, hb, hc⟩ := h.1.at hn
  have hl := h.len
  exact ⟨b, o, ha, hb, fun k hk => ⟨hc k _ (List.getElem?_eq_getElem (by omega)) 0 _ (by rw [nthEnding_eq (by omega)]; rfl), by rw [Nat.add_assoc]; exact hc k _ (List.getElem?_eq_getElem (by omega)) 1 _ (by rw [nthEnding_eq (by omega)]; rfl), by rw [Nat.add_assoc]; exact hc k _ (List.getElem?_eq_getElem (by omega)) 2 _ (by rw [nthEnding_eq (by omega)]; rfl)⟩⟩
def OwnEnding (w : World) (B : Nat) (a : Option Addr) (n c : Nat) (xs : List EndingV) : Prop := OwnG layEnding 75 w B a n c xs ∧ ∀ x ∈ xs, okEnding x
theorem OwnEnding.rd {w : World} {B n c : Nat} {a : Option Addr} {xs : List EndingV} (h : OwnEnding w B a n c xs) : RdEnding w a n xs := ⟨h.1.rd, h.2⟩
theorem OwnEnding.ext {w w' : World} {B n c : Nat} {a : Option Addr} {xs : List EndingV} (h : OwnEnding w B a n c xs) (x : Ext w w') : OwnEnding w' B a n c xs := ⟨h.1.ext x, h.2⟩
theorem OwnEnding.mono {w : World} {B B' n c : Nat} {a : Option Addr} {xs : List EndingV} (h : OwnEnding w B a n c xs) (hb : B' ≤ B) : OwnEnding w B' a n c xs := ⟨h.1.mono hb, h.2⟩
theorem OwnEnding.cap {w : World} {B n c : Nat} {a : Option Addr} {xs : List EndingV} (h : OwnEnding w B a n c xs) : n ≤ c := by
  rcases h.1.1.2 with ⟨h1, h2⟩ | ⟨g, cap, cur, hv, _, _, hc, _⟩
  · omega
  · cases hv; exact hc
def NewEnding (w w' : World) (xs : List EndingV) (v : Value) : Prop := ∃ a n c, v = .slice a n c ∧ OwnEnding w' w.heap.size a n c xs ∧ Ext w w'
/-- What is left of a measure. -/
def leftEnding (m : Nat) (left r : Int) : Prop := (0 ≤ r → (m : Int) + r = left) ∧ (r < 0 → r = -1)

theorem leftEnding_ok {x : EndingV} {left r : Int} (h : leftEnding (sizeEnding x) left r) (h0 : 0 ≤ r) (h1 : left ≤ 1048576) : okEnding x := by
  have := h.1 h0
  unfold sizeEnding at this
  unfold okEnding
  omega

/-- Values that came in; sizes not bounded by us. -/
def InEnding (w : World) (a : Option Addr) (n : Nat) (xs : List EndingV) : Prop := xs.length = n ∧ n ≤ 9223372036854775807 ∧ Rd w a (xs.flatMap layEnding.cells) ∧ ∀ x ∈ xs, ok0Ending x
def totEnding (xs : List EndingV) : Nat := (xs.map sizeEnding).sum
theorem totEnding_take {xs : List EndingV} {k : Nat} (hk : k < xs.length) : totEnding (xs.take (k + 1)) = totEnding (xs.take k) + sizeEnding (nthEnding xs k) := by
  rw [totEnding, totEnding, List.take_succ_eq_append_getElem hk, List.map_append, List.sum_append, nthEnding_eq hk]
  simp
theorem totEnding_le {xs : List EndingV} {x : EndingV} (h : x ∈ xs) : sizeEnding x ≤ totEnding xs := by
  induction xs with
  | nil => simp at h
  | cons y ys ih =>
    rw [totEnding, List.map_cons, List.sum_cons]
    rcases List.mem_cons.1 h with rfl | h
    · omega
    · have := ih h
      rw [totEnding] at this
      omega
theorem InEnding.rd {w : World} {a : Option Addr} {n : Nat} {xs : List EndingV} (h : InEnding w a n xs) (hn : n ≤ 4294967296) (hs : ∀ x ∈ xs, okEnding x) : RdEnding w a n xs := ⟨⟨h.1, hn, h.2.2.1⟩, hs⟩
theorem InEnding.ext {w w' : World} {a : Option Addr} {n : Nat} {xs : List EndingV} (h : InEnding w a n xs) (x : Ext w w') : InEnding w' a n xs := ⟨h.1, h.2.1, h.2.2.1.ext x, h.2.2.2⟩
theorem InEnding.at {w : World} {a : Option Addr} {n : Nat} {xs : List EndingV} (h : InEnding w a n xs) (hn : 0 < n) :
    ∃ b o, a = some ⟨b, o, none⟩ ∧ b < w.heap.size ∧ ∀ k, k < n → w.cell? ⟨b, o + k * 3, none⟩ = some (.string (nthEnding xs k).old) ∧ w.cell? ⟨b, o + k * 3 + 1, none⟩ = some (.string (nthEnding xs k).new) ∧ w.cell? ⟨b, o + k * 3 + 2, none⟩ = some (.int .i64 (nthEnding xs k).kase) := by
  have hl := h.1
  obtain ⟨b, o, ha, hb, hc⟩ := h.2.2.1.pos (by rw [flat_len, hl]; exact Nat.mul_pos hn (by decide))
  have hcc : ∀ k, k < n → ∀ j u, (layEnding.cells (nthEnding xs k))[j]? = some u → w.cell? ⟨b, o + (k * 3 + j), none⟩ = some u := by
    intro k hk j u hu
    refine hc _ u ?_
    have := flat_get layEnding xs k j (nthEnding xs k) (by rw [nthEnding_eq (by omega)]; exact List.getElem?_eq_getElem (by omega)) (List.getElem?_eq_some_iff.1 hu).1
    exact this.trans hu
  exact ⟨b, o, ha, hb, fun k hk => ⟨hcc k hk 0 _ rfl, by rw [Nat.add_assoc]; exact hcc k hk 1 _ rfl, by rw [Nat.add_assoc]; exact hcc k hk 2 _ rfl⟩⟩
/-- What counting leaves. -/
theorem leftEnding_rd {w : World} {a : Option Addr} {n : Nat} {xs : List EndingV} {left r : Int} (h : InEnding w a n xs) (hl : Left n (totEnding xs) left r) (h0 : 0 ≤ r) (h1 : left ≤ 1048576) : RdEnding w a n xs := by
  have := hl.1 h0
  exact h.rd (by omega) fun x hx => by have := totEnding_le hx; unfold sizeEnding at this; unfold okEnding; omega

theorem take_setEnding (xs : List EndingV) (k n : Nat) (zs : List Value) (hn : xs.length = n) (h : k < n) (hz : zs.length = 3) :
    (((((xs.take k).flatMap layEnding.cells ++ (List.replicate (n - k) zs).flatten).set (k * 3) (.string (nthEnding xs k).old)).set (k * 3 + 1) (.string (nthEnding xs k).new)).set (k * 3 + 2) (.int .i64 (nthEnding xs k).kase)) = (xs.take (k + 1)).flatMap layEnding.cells ++ (List.replicate (n - (k + 1)) zs).flatten := by
  subst hn
  have e : xs.length - k = (xs.length - (k + 1)) + 1 := by omega
  rw [e, List.replicate_succ, List.flatten_cons]
  have hl : ((xs.take k).flatMap layEnding.cells).length = k * 3 := by rw [flat_len]; simp [layEnding]; omega
  match zs, hz with
  | [z0, z1, z2], _ =>
    have t := List.take_succ_eq_append_getElem h
    simp only [List.cons_append, List.nil_append]
    repeat rw [List.set_append_right _ _ (by omega), hl]
    rw [t, List.flatMap_append, nthEnding_eq h, List.append_assoc]
    simp [layEnding]

theorem Tryz.info_Ending : (Tryz.prog.info? 75).map (fun i => (i.zero, i.size, i.bytes)) = some (some (.agg #[.string ⟨#[]⟩, .string ⟨#[]⟩, .int .i64 0]), 3, 40) := by kernel_rfl

end Go.Proofs.YtfglmoedicijkaaGreatDoor

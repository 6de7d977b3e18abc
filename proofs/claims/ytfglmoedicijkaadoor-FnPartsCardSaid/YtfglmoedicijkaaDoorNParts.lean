/-
  Parts: how it lies; the statements' own helpers on such values and slices of them.
-/
import Derived.Test.YtfglmoedicijkaaDoorS
import Derived.StillTailTactics
namespace Go.Proofs.YtfglmoedicijkaaDoor
open Go.RowKit

structure PartsV where
  spec : ByteArray
  gen : ByteArray

def valParts (x : PartsV) : Value := .agg #[.string x.spec, .string x.gen]
def layParts : Lay PartsV where
  cells x := [.string x.spec, .string x.gen]
  sz := 2
  len _ := rfl
  one _ u hu := by simp at hu; rcases hu with rfl | rfl <;> rfl
  pos := by decide
def nthParts (xs : List PartsV) (k : Nat) : PartsV := xs.getD k ⟨ByteArray.empty, ByteArray.empty⟩
theorem nthParts_eq {xs : List PartsV} {k : Nat} (h : k < xs.length) : nthParts xs k = xs[k] := by simp [nthParts, h]
theorem nthParts_mem {xs : List PartsV} {k : Nat} (h : k < xs.length) : nthParts xs k ∈ xs := by rw [nthParts_eq h]; exact List.getElem_mem h
def okParts (x : PartsV) : Prop := x.spec.size ≤ 1073741824 ∧ x.gen.size ≤ 1073741824
def ok0Parts (x : PartsV) : Prop := x.spec.size ≤ 9223372036854775807 ∧ x.gen.size ≤ 9223372036854775807
def sizeParts (x : PartsV) : Nat := x.spec.size + x.gen.size
def RdParts (w : World) (a : Option Addr) (n : Nat) (xs : List PartsV) : Prop := RdG layParts w a n xs ∧ ∀ x ∈ xs, okParts x
theorem RdParts.ext {w w' : World} {a : Option Addr} {n : Nat} {xs : List PartsV} (h : RdParts w a n xs) (x : Ext w w') : RdParts w' a n xs := ⟨h.1.ext x, h.2⟩
theorem RdParts.len {w : World} {a : Option Addr} {n : Nat} {xs : List PartsV} (h : RdParts w a n xs) : xs.length = n := h.1.len
theorem RdParts.le {w : World} {a : Option Addr} {n : Nat} {xs : List PartsV} (h : RdParts w a n xs) : n ≤ 4294967296 := h.1.le
theorem RdParts.ok {w : World} {a : Option Addr} {n : Nat} {xs : List PartsV} (h : RdParts w a n xs) {k : Nat} (hk : k < n) : okParts (nthParts xs k) := h.2 _ (nthParts_mem (by rw [h.len]; exact hk))
theorem RdParts.at {w : World} {a : Option Addr} {n : Nat} {xs : List PartsV} (h : RdParts w a n xs) (hn : 0 < n) :
    ∃ b o, a = some ⟨b, o, none⟩ ∧ b < w.heap.size ∧ ∀ k, k < n → w.cell? ⟨b, o + k * 2, none⟩ = some (.string (nthParts xs k).spec) ∧ w.cell? ⟨b, o + k * 2 + 1, none⟩ = some (.string (nthParts xs k).gen) := by
  obtain ⟨b, o, ha, hb, hc⟩ := h.1.at hn
  have hl := h.len
  exact ⟨b, o, ha, hb, fun k hk => ⟨hc k _ (List.getElem?_eq_getElem (by omega)) 0 _ (by rw [nthParts_eq (by omega)]; rfl), by rw [Nat.add_assoc]; exact hc k _ (List.getElem?_eq_getElem (by omega)) 1 _ (by rw [nthParts_eq (by omega)]; rfl)⟩⟩
def OwnParts (w : World) (B : Nat) (a : Option Addr) (n c : Nat) (xs : List PartsV) : Prop := OwnG layParts 51 w B a n c xs ∧ ∀ x ∈ xs, okParts x
theorem OwnParts.rd {w : World} {B n c : Nat} {a : Option Addr} {xs : List PartsV} (h : OwnParts w B a n c xs) : RdParts w a n xs := ⟨h.1.rd, h.2⟩
theorem OwnParts.ext {w w' : World} {B n c : Nat} {a : Option Addr} {xs : List PartsV} (h : OwnParts w B a n c xs) (x : Ext w w') : OwnParts w' B a n c xs := ⟨h.1.ext x, h.2⟩
theorem OwnParts.mono {w : World} {B B' n c : Nat} {a : Option Addr} {xs : List PartsV} (h : OwnParts w B a n c xs) (hb : B' ≤ B) : OwnParts w B' a n c xs := ⟨h.1.mono hb, h.2⟩
theorem OwnParts.cap {w : World} {B n c : Nat} {a : Option Addr} {xs : List PartsV} (h : OwnParts w B a n c xs) : n ≤ c := by
  rcases h.1.1.2 with ⟨h1, h2⟩ | ⟨g, cap, cur, hv, _, _, hc, _⟩
  · omega
  · cases hv; exact hc
def NewParts (w w' : World) (xs : List PartsV) (v : Value) : Prop := ∃ a n c, v = .slice a n c ∧ OwnParts w' w.heap.size a n c xs ∧ Ext w w'
/-- What is left of a measure. -/
def leftParts (m : Nat) (left r : Int) : Prop := (0 ≤ r → (m : Int) + r = left) ∧ (r < 0 → r = -1)

theorem leftParts_ok {x : PartsV} {left r : Int} (h : leftParts (sizeParts x) left r) (h0 : 0 ≤ r) (h1 : left ≤ 1048576) : okParts x := by
  have := h.1 h0
  unfold sizeParts at this
  unfold okParts
  omega

/-- Values that came in; sizes not bounded by us. -/
def InParts (w : World) (a : Option Addr) (n : Nat) (xs : List PartsV) : Prop := xs.length = n ∧ n ≤ 9223372036854775807 ∧ Rd w a (xs.flatMap layParts.cells) ∧ ∀ x ∈ xs, ok0Parts x
def totParts (xs : List PartsV) : Nat := (xs.map sizeParts).sum
theorem totParts_take {xs : List PartsV} {k : Nat} (hk : k < xs.length) : totParts (xs.take (k + 1)) = totParts (xs.take k) + sizeParts (nthParts xs k) := by
  rw [totParts, totParts, List.take_succ_eq_append_getElem hk, List.map_append, List.sum_append, nthParts_eq hk]
  simp
theorem totParts_le {xs : List PartsV} {x : PartsV} (h : x ∈ xs) : sizeParts x ≤ totParts xs := by
  induction xs with
  | nil => simp at h
  | cons y ys ih =>
    rw [totParts, List.map_cons, List.sum_cons]
    rcases List.mem_cons.1 h with rfl | h
    · omega
    · have := ih h
      rw [totParts] at this
      omega
theorem InParts.rd {w : World} {a : Option Addr} {n : Nat} {xs : List PartsV} (h : InParts w a n xs) (hn : n ≤ 4294967296) (hs : ∀ x ∈ xs, okParts x) : RdParts w a n xs := ⟨⟨h.1, hn, h.2.2.1⟩, hs⟩
theorem InParts.ext {w w' : World} {a : Option Addr} {n : Nat} {xs : List PartsV} (h : InParts w a n xs) (x : Ext w w') : InParts w' a n xs := ⟨h.1, h.2.1, h.2.2.1.ext x, h.2.2.2⟩
theorem InParts.at {w : World} {a : Option Addr} {n : Nat} {xs : List PartsV} (h : InParts w a n xs) (hn : 0 < n) :
    ∃ b o, a = some ⟨b, o, none⟩ ∧ b < w.heap.size ∧ ∀ k, k < n → w.cell? ⟨b, o + k * 2, none⟩ = some (.string (nthParts xs k).spec) ∧ w.cell? ⟨b, o + k * 2 + 1, none⟩ = some (.string (nthParts xs k).gen) := by
  have hl := h.1
  obtain ⟨b, o, ha, hb, hc⟩ := h.2.2.1.pos (by rw [flat_len, hl]; exact Nat.mul_pos hn (by decide))
  have hcc : ∀ k, k < n → ∀ j u, (layParts.cells (nthParts xs k))[j]? = some u → w.cell? ⟨b, o + (k * 2 + j), none⟩ = some u := by
    intro k hk j u hu
    refine hc _ u ?_
    have := flat_get layParts xs k j (nthParts xs k) (by rw [nthParts_eq (by omega)]; exact List.getElem?_eq_getElem (by omega)) (List.getElem?_eq_some_iff.1 hu).1
    exact this.trans hu
  exact ⟨b, o, ha, hb, fun k hk => ⟨hcc k hk 0 _ rfl, by rw [Nat.add_assoc]; exact hcc k hk 1 _ rfl⟩⟩
/-- What counting leaves. -/
theorem leftParts_rd {w : World} {a : Option Addr} {n : Nat} {xs : List PartsV} {left r : Int} (h : InParts w a n xs) (hl : Left n (totParts xs) left r) (h0 : 0 ≤ r) (h1 : left ≤ 1048576) : RdParts w a n xs := by
  have := hl.1 h0
  exact h.rd (by omega) fun x hx => by have := totParts_le hx; unfold sizeParts at this; unfold okParts; omega

theorem take_setParts (xs : List PartsV) (k n : Nat) (zs : List Value) (hn : xs.length = n) (h : k < n) (hz : zs.length = 2) :
    ((((xs.take k).flatMap layParts.cells ++ (List.replicate (n - k) zs).flatten).set (k * 2) (.string (nthParts xs k).spec)).set (k * 2 + 1) (.string (nthParts xs k).gen)) = (xs.take (k + 1)).flatMap layParts.cells ++ (List.replicate (n - (k + 1)) zs).flatten := by
  subst hn
  have e : xs.length - k = (xs.length - (k + 1)) + 1 := by omega
  rw [e, List.replicate_succ, List.flatten_cons]
  have hl : ((xs.take k).flatMap layParts.cells).length = k * 2 := by rw [flat_len]; simp [layParts]; omega
  match zs, hz with
  | [z0, z1], _ =>
    have t := List.take_succ_eq_append_getElem h
    simp only [List.cons_append, List.nil_append]
    repeat rw [List.set_append_right _ _ (by omega), hl]
    rw [t, List.flatMap_append, nthParts_eq h, List.append_assoc]
    simp [layParts]

theorem Tryd.info_Parts : (Tryd.prog.info? 51).map (fun i => (i.zero, i.size, i.bytes)) = some (some (.agg #[.string ⟨#[]⟩, .string ⟨#[]⟩]), 2, 32) := by kernel_rfl

end Go.Proofs.YtfglmoedicijkaaDoor

/-
  Strings and slices of strings: how they lie; words.
-/
import Derived.Test.YtfglmoedicijkaaGreatDoorC
import Derived.Test.YtfglmoedicijkaaGreatDoorH
import Derived.Deep.QuietTactic
import Derived.BigQuiet
namespace Go.Proofs.YtfglmoedicijkaaGreatDoor
open Go.RowKit

/-- A string's cell. -/
def layS : Lay ByteArray where
  cells s := [.string s]
  sz := 1
  len _ := rfl
  one _ u hu := by simp at hu; subst hu; rfl
  pos := by decide
def nthS (ss : List ByteArray) (k : Nat) : ByteArray := ss.getD k ByteArray.empty
theorem nthS_eq {ss : List ByteArray} {k : Nat} (h : k < ss.length) : nthS ss k = ss[k] := by simp [nthS, h]
theorem nthS_mem {ss : List ByteArray} {k : Nat} (h : k < ss.length) : nthS ss k ∈ ss := by rw [nthS_eq h]; exact List.getElem_mem h

/-- A slice of strings of moderate sizes reads as ss. -/
def RdS (w : World) (a : Option Addr) (n : Nat) (ss : List ByteArray) : Prop := RdG layS w a n ss ∧ ∀ s ∈ ss, s.size ≤ 1073741824
theorem RdS.ext {w w' : World} {a : Option Addr} {n : Nat} {ss : List ByteArray} (h : RdS w a n ss) (x : Ext w w') : RdS w' a n ss := ⟨h.1.ext x, h.2⟩
theorem RdS.len {w : World} {a : Option Addr} {n : Nat} {ss : List ByteArray} (h : RdS w a n ss) : ss.length = n := h.1.len
theorem RdS.le {w : World} {a : Option Addr} {n : Nat} {ss : List ByteArray} (h : RdS w a n ss) : n ≤ 4294967296 := h.1.le
theorem RdS.at {w : World} {a : Option Addr} {n : Nat} {ss : List ByteArray} (h : RdS w a n ss) (hn : 0 < n) :
    ∃ b o, a = some ⟨b, o, none⟩ ∧ b < w.heap.size ∧ ∀ k, k < n → w.cell? ⟨b, o + k, none⟩ = some (.string (nthS ss k)) := by
  obtain ⟨b, o, ha, hb, hc⟩ := h.1.at hn
  refine ⟨b, o, ha, hb, fun k hk => ?_⟩
  have hl := h.len
  have := hc k (nthS ss k) (by rw [nthS_eq (by omega)]; exact List.getElem?_eq_getElem (by omega)) 0 (.string (nthS ss k)) rfl
  simpa [layS] using this
theorem RdS.size {w : World} {a : Option Addr} {n : Nat} {ss : List ByteArray} (h : RdS w a n ss) {k : Nat} (hk : k < n) : (nthS ss k).size ≤ 1073741824 := h.2 _ (nthS_mem (by rw [h.len]; exact hk))
def OwnS (w : World) (B : Nat) (a : Option Addr) (n c : Nat) (ss : List ByteArray) : Prop := OwnG layS 9 w B a n c ss ∧ ∀ s ∈ ss, s.size ≤ 1073741824
theorem OwnS.rd {w : World} {B n c : Nat} {a : Option Addr} {ss : List ByteArray} (h : OwnS w B a n c ss) : RdS w a n ss := ⟨h.1.rd, h.2⟩
theorem OwnS.cap {w : World} {B n c : Nat} {a : Option Addr} {ss : List ByteArray} (h : OwnS w B a n c ss) : n ≤ c := by
  rcases h.1.1.2 with ⟨h1, h2⟩ | ⟨g, cap, cur, hv, _, _, hc, _⟩
  · omega
  · cases hv; exact hc
theorem OwnS.ext {w w' : World} {B n c : Nat} {a : Option Addr} {ss : List ByteArray} (h : OwnS w B a n c ss) (x : Ext w w') : OwnS w' B a n c ss := ⟨h.1.ext x, h.2⟩
theorem OwnS.mono {w : World} {B B' n c : Nat} {a : Option Addr} {ss : List ByteArray} (h : OwnS w B a n c ss) (hb : B' ≤ B) : OwnS w B' a n c ss := ⟨h.1.mono hb, h.2⟩
def NewS (w w' : World) (ss : List ByteArray) (v : Value) : Prop := ∃ a n c, v = .slice a n c ∧ OwnS w' w.heap.size a n c ss ∧ Ext w w'
theorem NewS.nil (w w' : World) (h : Ext w w') : NewS w w' [] (.slice none 0 0) := ⟨none, 0, 0, rfl, ⟨OwnG.isNil _ _ _ _, by simp⟩, h⟩
theorem NewS.pre {w0 w w' : World} {ss : List ByteArray} {v : Value} (h0 : Ext w0 w) (h : NewS w w' ss v) : NewS w0 w' ss v := by
  obtain ⟨a, n, c, rfl, ho, hx⟩ := h
  exact ⟨a, n, c, rfl, ho.mono h0.size, h0.trans hx⟩
theorem Tryz.info_string : (Tryz.prog.info? 9).map (fun i => (i.zero, i.size, i.bytes)) = some (some (.string ⟨#[]⟩), 1, 16) := by kernel_rfl

theorem strs_take_set (ss : List ByteArray) (k n : Nat) (z : Value) (hn : ss.length = n) (h : k < n) : ((ss.take k).flatMap layS.cells ++ List.replicate (n - k) z).set k (.string (nthS ss k)) = (ss.take (k + 1)).flatMap layS.cells ++ List.replicate (n - (k + 1)) z := by
  subst hn
  have e : ss.length - k = (ss.length - (k + 1)) + 1 := by omega
  rw [e, List.replicate_succ]
  have hl : ((ss.take k).flatMap layS.cells).length = k := by rw [flat_len]; simp [layS]; omega
  rw [List.set_append_right _ _ (by omega), hl]
  have t := List.take_succ_eq_append_getElem h
  rw [t, List.flatMap_append, nthS_eq h, List.append_assoc, Nat.sub_self]
  rfl

end Go.Proofs.YtfglmoedicijkaaGreatDoor

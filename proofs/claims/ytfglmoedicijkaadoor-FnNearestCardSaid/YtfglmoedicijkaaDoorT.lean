/-
  Strings and slices of strings: how they lie; words.
-/
import Derived.Test.YtfglmoedicijkaaDoorC
import Derived.Test.YtfglmoedicijkaaDoorH
import Derived.Deep.QuietTactic
import Derived.BigQuiet
namespace Go.Proofs.YtfglmoedicijkaaDoor
open Go.RowKit

/-- A string's cell. -/
def layS : Lay ByteArray where
  cells s := [.string s]
  sz := 1
  len _ := rfl
  one _ u hu := by simp at hu; subst hu; rfl
  pos := by decide
def nthS (ss : List ByteArray) (k : Nat) : ByteArray := ss.getD k ByteArray.empty
theorem nthS_eq {ss : List ByteArray} {k : Nat} (h : k < ss.length) : nthS ss k = ss[k] := by simp [nthS, h]
theorem nthS_mem {ss : List ByteArray} {k : Nat} (h : k < ss.length) : nthS ss k ∈ ss := by rw [nthS_eq h]; exact List.getElem_mem h

/-- A slice of strings of moderate sizes reads as ss. -/
def RdS (w : World) (a : Option Addr) (n : Nat) (ss : List ByteArray) : Prop := RdG layS w a n ss ∧ ∀ s ∈ ss, s.size ≤ 1073741824
theorem RdS.ext {w w' : World} {a : Option Addr} {n : Nat} {ss : List ByteArray} (h : RdS w a n ss) (x : Ext w w') : RdS w' a n ss := ⟨h.1.ext x, h.2⟩
theorem RdS.len {w : World} {a : Option Addr} {n : Nat} {ss : List ByteArray} (h : RdS w a n ss) : ss.length = n := h.1.len
theorem RdS.le {w : World} {a : Option Addr} {n : Nat} {ss : List ByteArray} (h : RdS w a n ss) : n ≤ 4294967296 := h.1.le
theorem RdS.at {w : World} {a : Option Addr} {n : Nat} {ss : List ByteArray} (h : RdS w a n ss) (hn : 0 < n) :
    ∃ b o, a = some ⟨b, o, none⟩ ∧ b < w.heap.size ∧ ∀ k, k < n → w.cell? ⟨b, o + k, none⟩ = some (.string (nthS ss k)) := by
  obtain ⟨b, o, ha, hb, hc⟩ := h.1.at hn
  refine ⟨b, o, ha, hb, fun k hk => ?_⟩
  have hl := h.len
  have := hc k (nthS ss k) (by rw [nthS_eq (by omega)]; exact List.getElem?_eq_getElem (by omega)) 0 (.string (nthS ss k)) rfl
  simpa [layS] using this
theorem RdS.size {w : World} {a : Option Addr} {n : Nat} {ss : List ByteArray} (h : RdS w a n ss) {k : Nat} (hk : k < n) : (nthS ss k).size ≤ 1073741824 := h.2 _ (nthS_mem (by rw [h.len]; exact hk))
def OwnS (w : World) (B : Nat) (a : Option Addr) (n c : Nat) (ss : List ByteArray) : Prop := OwnG layS 9 w B a n c ss ∧ ∀ s ∈ ss, s.size ≤ 1073741824
theorem OwnS.rd {w : World} {B n c : Nat} {a : Option Addr} {ss : List ByteArray} (h : OwnS w B a n c ss) : RdS w a n ss := ⟨h.1.rd, h.2⟩
theorem OwnS.cap {w : World} {B n c : Nat} {a : Option Addr} {ss : List ByteArray} (h : OwnS w B a n c ss) : n ≤ c := by
  rcases h.1.1.2 with ⟨h1, h2⟩ | ⟨g, cap, cur, hv, _, _, hc, _⟩
  · omega
  · cases hv; exact hc
theorem OwnS.ext {w w' : World} {B n c : Nat} {a : Option Addr} {ss : List ByteArray} (h : OwnS w B a n c ss) (x : Ext w w') : OwnS w' B a n c ss := ⟨h.1.ext x, h.2⟩
theorem OwnS.mono {w : World} {B B' n c : Nat} {a : Option Addr} {ss : List ByteArray} (h : OwnS w B a n c ss) (hb : B' ≤ B) : OwnS w B' a n c ss := ⟨h.1.mono hb, h.2⟩
def NewS (w w' : World) (ss : List ByteArray) (v : Value) : Prop := ∃ a n c, v = .slice a n c ∧ OwnS w' w.heap.size a n c ss ∧ Ext w w'
theorem NewS.nil (w w' : World) (h : Ext w w') : NewS w w' [] (.slice none 0 0) := ⟨none, 0, 0, rfl, ⟨OwnG.isNil _ _ _ _, by simp⟩, h⟩
theorem NewS.pre {w0 w w' : World} {ss : List ByteArray} {v : Value} (h0 : Ext w0 w) (h : NewS w w' ss v) : NewS w0 w' ss v := by
  obtain ⟨a, n, c, rfl, ho, hx⟩ := h
  exact ⟨a, n, c, rfl, ho.mono h0.size, h0.trans hx⟩
theorem Tryd.info_string : (Tryd.prog.info? 9).map (fun i => (i.zero, i.size, i.bytes)) = some (some (.string ⟨#[]⟩), 1, 16) := by kernel_rfl

theorem strs_take_set (ss : List ByteArray) (k n : Nat) (z : Value) (hn : ss.length = n) (h : k < n) : ((ss.take k).flatMap layS.cells ++ List.replicate (n - k) z).set k (.string (nthS ss k)) = (ss.take (k + 1)).flatMap layS.cells ++ List.replicate (n - (k + 1)) z := by
  subst hn
  have e : ss.length - k = (ss.length - (k + 1)) + 1 := by omega
  rw [e, List.replicate_succ]
  have hl : ((ss.take k).flatMap layS.cells).length = k := by rw [flat_len]; simp [layS]; omega
  rw [List.set_append_right _ _ (by omega), hl]
  have t := List.take_succ_eq_append_getElem h
  rw [t, List.flatMap_append, nthS_eq h, List.append_assoc, Nat.sub_self]
  rfl

set_option maxHeartbeats 400000 in
theorem toStringS_any (a : Option Addr) (n c : Nat) (ss : List ByteArray) (w : World) (hr : RdS w a n ss) :
    Calls Tryd.prog 9 #[.slice a n c] w fun e w' => ∃ v, e = .returned v ∧ NewS w w' ss v := by
  obtain ⟨i, hi, hz0, hz1, hz2⟩ := info_parts Tryd.info_string
  have hm := hr.le
  go_enter Tryd.func9, Tryd.ntmps9
  go_wp2_with (first | (at_make; refine wpList_make_full _ rfl _ _ 23 rfl w.heap.size 9 i (.string ⟨#[]⟩) 1 Tryd.underlying23 hi hz0 hz1 _ _ _ _ n rfl rfl rfl rfl (by rw [hz2]; omega) (by simp [maxLen]; omega) (Nat.le_refl _) ?_; intro w1 hown hgrow))
  go_loopw [4] (fun i wr => ∃ k : Nat, k ≤ n ∧ i = .int .i64 k ∧ wr.ownsRow w.heap.size 9 1 (.slice (some ⟨w.heap.size, 0, none⟩) n n) n ((ss.take k).flatMap layS.cells ++ List.replicate (n - k) (.string ⟨#[]⟩)) ∧ Ext w wr) (fun i _ => n - (intOf i).toNat)
  case atStart => exact ⟨0, Nat.zero_le _, rfl, by have e := toList_madeCells_one (.string ⟨#[]⟩) n; simpa [Value.cells, e] using hown, (Ext.refl _).grown0 hgrow⟩
  case round =>
    obtain ⟨k, hk, rfl, ho, hb⟩ := hrel
    by_cases hlt : k < n
    · obtain ⟨b, o, rfl, hbl, hc⟩ := hr.at (by omega)
      have hck : wr.cell? ⟨b, o + k, none⟩ = some (.string (nthS ss k)) := by
        rw [Below.cell hb (p := ⟨b, o + k, none⟩) hbl]; exact hc k hlt
      have hf := ho.frozenAt k
      obtain ⟨u, hw⟩ := own_old ho k hlt
      have hs1 := (ho.stored k (.string (nthS ss k))).1
      rw [strs_take_set ss k n _ hr.len hlt] at hs1
      have HS := Lib.hid (And.intro hs1 (hb.setCell (p := ⟨w.heap.size, k, none⟩) (Nat.le_refl _) (.string (nthS ss k))))
      clear hc hs1 ho hb
      go_wp2
      go_roundw
      case rel => exact ⟨k + 1, by omega, by go_num, by simpa using HS.out.1, by simpa using HS.out.2⟩
      case measure => simp [intOf]; omega
    · obtain rfl : k = n := by omega
      have HS := Lib.hid (And.intro ho hb)
      clear ho hb
      go_wp2
      go_ret
      refine ⟨_, rfl, _, k, k, rfl, ⟨⟨?_, hm⟩, hr.2⟩, HS.out.2⟩
      have h := HS.out.1
      rw [List.take_of_length_le (by rw [hr.len]; exact Nat.le_refl _), Nat.sub_self, List.replicate_zero, List.append_nil] at h
      exact h

set_option maxHeartbeats 400000 in
theorem eqStringS_same (a b : Option Addr) (n c c' : Nat) (ss : List ByteArray) (w : World) (ha : RdS w a n ss) (hb : RdS w b n ss) :
    Calls Tryd.prog 13 #[.slice a n c, .slice b n c'] w fun e w' => e = .returned (.bool true) ∧ Still w w' := by
  have hm := ha.le
  go_enter Tryd.func13, Tryd.ntmps13
  go_wp2
  go_loopw [5] (fun i wr => ∃ k : Nat, k ≤ n ∧ i = .int .i64 k ∧ Still w wr) (fun i _ => n - (intOf i).toNat)
  case atStart => exact ⟨0, Nat.zero_le _, rfl, Still.refl _⟩
  case round =>
    obtain ⟨k, hk, rfl, hs⟩ := hrel
    by_cases hlt : k < n
    · obtain ⟨b1, o1, rfl, hbl1, hc1⟩ := (ha.ext hs.ext).at (by omega)
      obtain ⟨b2, o2, rfl, hbl2, hc2⟩ := (hb.ext hs.ext).at (by omega)
      have hk1 := hc1 k hlt
      have hk2 := hc2 k hlt
      clear hc1 hc2
      have hki : (k : Int) < n := by omega
      go_wp2
      go_quiet (fail)
      go_wp2
      go_roundw
      case rel => exact ⟨k + 1, by omega, by go_num, hs.drewN _⟩
      case measure => simp [intOf]; omega
    · obtain rfl : k = n := by omega
      go_wp2
      go_ret
      exact ⟨rfl, hs⟩

end Go.Proofs.YtfglmoedicijkaaDoor

/-
  Name: how it lies; the statements' own helpers on such values and slices of them.
-/
import Derived.Test.YtjelmidkkpchkaaGreatDoorNSpan
import Derived.StillTailTactics
namespace Go.Proofs.YtjelmidkkpchkaaGreatDoor
open Go.RowKit

structure NameV where
  text : ByteArray
  lang : ByteArray
  status : Int
  from_ : Int
  to_ : Int

def valName (x : NameV) : Value := .agg #[.string x.text, .string x.lang, .int .i64 x.status, .int .i64 x.from_, .int .i64 x.to_]
def layName : Lay NameV where
  cells x := [.string x.text, .string x.lang, .int .i64 x.status, .int .i64 x.from_, .int .i64 x.to_]
  sz := 5
  len _ := rfl
  one _ u hu := by simp at hu; rcases hu with rfl | rfl | rfl | rfl | rfl <;> rfl
  pos := by decide
def nthName (xs : List NameV) (k : Nat) : NameV := xs.getD k ⟨ByteArray.empty, ByteArray.empty, 0, 0, 0⟩
theorem nthName_eq {xs : List NameV} {k : Nat} (h : k < xs.length) : nthName xs k = xs[k] := by simp [nthName, h]
theorem nthName_mem {xs : List NameV} {k : Nat} (h : k < xs.length) : nthName xs k ∈ xs := by rw [nthName_eq h]; exact List.getElem_mem h
def okName (x : NameV) : Prop := x.text.size ≤ 1073741824 ∧ x.lang.size ≤ 1073741824
def ok0Name (x : NameV) : Prop := x.text.size ≤ 9223372036854775807 ∧ x.lang.size ≤ 9223372036854775807
def sizeName (x : NameV) : Nat := x.text.size + x.lang.size
def RdName (w : World) (a : Option Addr) (n : Nat) (xs : List NameV) : Prop := RdG layName w a n xs ∧ ∀ x ∈ xs, okName x
theorem RdName.ext {w w' : World} {a : Option Addr} {n : Nat} {xs : List NameV} (h : RdName w a n xs) (x : Ext w w') : RdName w' a n xs := ⟨h.1.ext x, h.2⟩
theorem RdName.len {w : World} {a : Option Addr} {n : Nat} {xs : List NameV} (h : RdName w a n xs) : xs.length = n := h.1.len
theorem RdName.le {w : World} {a : Option Addr} {n : Nat} {xs : List NameV} (h : RdName w a n xs) : n ≤ 4294967296 := h.1.le
theorem RdName.ok {w : World} {a : Option Addr} {n : Nat} {xs : List NameV} (h : RdName w a n xs) {k : Nat} (hk : k < n) : okName (nthName xs k) := h.2 _ (nthName_mem (by rw [h.len]; exact hk))
theorem RdName.at {w : World} {a : Option Addr} {n : Nat} {xs : List NameV} (h : RdName w a n xs) (hn : 0 < n) :
    ∃ b o, a = some ⟨b, o, none⟩ ∧ b < w.heap.size ∧ ∀ k, k < n → w.cell? ⟨b, o + k * 5, none⟩ = some (.string (nthName xs k).text) ∧ w.cell? ⟨b, o + k * 5 + 1, none⟩ = some (.string (nthName xs k).lang) ∧ w.cell? ⟨b, o + k * 5 + 2, none⟩ = some (.int .i64 (nthName xs k).status) ∧ w.cell? ⟨b, o + k * 5 + 3, none⟩ = some (.int .i64 (nthName xs k).from_) ∧ w.cell? ⟨b, o + k * 5 + 4, none⟩ = some (.int .i64 (nthName xs k).to_) := by
  obtain ⟨b, o, ha, hb, hc⟩ := h.1.at hn
  have hl := h.len
  exact ⟨b, o, ha, hb, fun k hk => ⟨hc k _ (List.getElem?_eq_getElem (by omega)) 0 _ (by rw [nthName_eq (by omega)]; rfl), by rw [Nat.add_assoc]; exact hc k _ (List.getElem?_eq_getElem (by omega)) 1 _ (by rw [nthName_eq (by omega)]; rfl), by rw [Nat.add_assoc]; exact hc k _ (List.getElem?_eq_getElem (by omega)) 2 _ (by rw [nthName_eq (by omega)]; rfl), by rw [Nat.add_assoc]; exact hc k _ (List.getElem?_eq_getElem (by omega)) 3 _ (by rw [nthName_eq (by omega)]; rfl), by rw [Nat.add_assoc]; exact hc k _ (List.getElem?_eq_getElem (by omega)) 4 _ (by rw [nthName_eq (by omega)]; rfl)⟩⟩
def OwnName (w : World) (B : Nat) (a : Option Addr) (n c : Nat) (xs : List NameV) : Prop := OwnG layName 69 w B a n c xs ∧ ∀ x ∈ xs, okName x
theorem OwnName.rd {w : World} {B n c : Nat} {a : Option Addr} {xs : List NameV} (h : OwnName w B a n c xs) : RdName w a n xs := ⟨h.1.rd, h.2⟩
theorem OwnName.ext {w w' : World} {B n c : Nat} {a : Option Addr} {xs : List NameV} (h : OwnName w B a n c xs) (x : Ext w w') : OwnName w' B a n c xs := ⟨h.1.ext x, h.2⟩
theorem OwnName.mono {w : World} {B B' n c : Nat} {a : Option Addr} {xs : List NameV} (h : OwnName w B a n c xs) (hb : B' ≤ B) : OwnName w B' a n c xs := ⟨h.1.mono hb, h.2⟩
theorem OwnName.cap {w : World} {B n c : Nat} {a : Option Addr} {xs : List NameV} (h : OwnName w B a n c xs) : n ≤ c := by
  rcases h.1.1.2 with ⟨h1, h2⟩ | ⟨g, cap, cur, hv, _, _, hc, _⟩
  · omega
  · cases hv; exact hc
def NewName (w w' : World) (xs : List NameV) (v : Value) : Prop := ∃ a n c, v = .slice a n c ∧ OwnName w' w.heap.size a n c xs ∧ Ext w w'
/-- What is left of a measure. -/
def leftName (m : Nat) (left r : Int) : Prop := (0 ≤ r → (m : Int) + r = left) ∧ (r < 0 → r = -1)

theorem leftName_ok {x : NameV} {left r : Int} (h : leftName (sizeName x) left r) (h0 : 0 ≤ r) (h1 : left ≤ 1048576) : okName x := by
  have := h.1 h0
  unfold sizeName at this
  unfold okName
  omega

/-- Values that came in; sizes not bounded by us. -/
def InName (w : World) (a : Option Addr) (n : Nat) (xs : List NameV) : Prop := xs.length = n ∧ n ≤ 9223372036854775807 ∧ Rd w a (xs.flatMap layName.cells) ∧ ∀ x ∈ xs, ok0Name x
def totName (xs : List NameV) : Nat := (xs.map sizeName).sum
theorem totName_take {xs : List NameV} {k : Nat} (hk : k < xs.length) : totName (xs.take (k + 1)) = totName (xs.take k) + sizeName (nthName xs k) := by
  rw [totName, totName, List.take_succ_eq_append_getElem hk, List.map_append, List.sum_append, nthName_eq hk]
  simp
theorem totName_le {xs : List NameV} {x : NameV} (h : x ∈ xs) : sizeName x ≤ totName xs := by
  induction xs with
  | nil => simp at h
  | cons y ys ih =>
    rw [totName, List.map_cons, List.sum_cons]
    rcases List.mem_cons.1 h with rfl | h
    · omega
    · have := ih h
      rw [totName] at this
      omega
theorem InName.rd {w : World} {a : Option Addr} {n : Nat} {xs : List NameV} (h : InName w a n xs) (hn : n ≤ 4294967296) (hs : ∀ x ∈ xs, okName x) : RdName w a n xs := ⟨⟨h.1, hn, h.2.2.1⟩, hs⟩
theorem InName.ext {w w' : World} {a : Option Addr} {n : Nat} {xs : List NameV} (h : InName w a n xs) (x : Ext w w') : InName w' a n xs := ⟨h.1, h.2.1, h.2.2.1.ext x, h.2.2.2⟩
theorem InName.at {w : World} {a : Option Addr} {n : Nat} {xs : List NameV} (h : InName w a n xs) (hn : 0 < n) :
    ∃ b o, a = some ⟨b, o, none⟩ ∧ b < w.heap.size ∧ ∀ k, k < n → w.cell? ⟨b, o + k * 5, none⟩ = some (.string (nthName xs k).text) ∧ w.cell? ⟨b, o + k * 5 + 1, none⟩ = some (.string (nthName xs k).lang) ∧ w.cell? ⟨b, o + k * 5 + 2, none⟩ = some (.int .i64 (nthName xs k).status) ∧ w.cell? ⟨b, o + k * 5 + 3, none⟩ = some (.int .i64 (nthName xs k).from_) ∧ w.cell? ⟨b, o + k * 5 + 4, none⟩ = some (.int .i64 (nthName xs k).to_) := by
  have hl := h.1
  obtain ⟨b, o, ha, hb, hc⟩ := h.2.2.1.pos (by rw [flat_len, hl]; exact Nat.mul_pos hn (by decide))
  have hcc : ∀ k, k < n → ∀ j u, (layName.cells (nthName xs k))[j]? = some u → w.cell? ⟨b, o + (k * 5 + j), none⟩ = some u := by
    intro k hk j u hu
    refine hc _ u ?_
    have := flat_get layName xs k j (nthName xs k) (by rw [nthName_eq (by omega)]; exact List.getElem?_eq_getElem (by omega)) (List.getElem?_eq_some_iff.1 hu).1
    exact this.trans hu
  exact ⟨b, o, ha, hb, fun k hk => ⟨hcc k hk 0 _ rfl, by rw [Nat.add_assoc]; exact hcc k hk 1 _ rfl, by rw [Nat.add_assoc]; exact hcc k hk 2 _ rfl, by rw [Nat.add_assoc]; exact hcc k hk 3 _ rfl, by rw [Nat.add_assoc]; exact hcc k hk 4 _ rfl⟩⟩
/-- What counting leaves. -/
theorem leftName_rd {w : World} {a : Option Addr} {n : Nat} {xs : List NameV} {left r : Int} (h : InName w a n xs) (hl : Left n (totName xs) left r) (h0 : 0 ≤ r) (h1 : left ≤ 1048576) : RdName w a n xs := by
  have := hl.1 h0
  exact h.rd (by omega) fun x hx => by have := totName_le hx; unfold sizeName at this; unfold okName; omega

theorem take_setName (xs : List NameV) (k n : Nat) (zs : List Value) (hn : xs.length = n) (h : k < n) (hz : zs.length = 5) :
    (((((((xs.take k).flatMap layName.cells ++ (List.replicate (n - k) zs).flatten).set (k * 5) (.string (nthName xs k).text)).set (k * 5 + 1) (.string (nthName xs k).lang)).set (k * 5 + 2) (.int .i64 (nthName xs k).status)).set (k * 5 + 3) (.int .i64 (nthName xs k).from_)).set (k * 5 + 4) (.int .i64 (nthName xs k).to_)) = (xs.take (k + 1)).flatMap layName.cells ++ (List.replicate (n - (k + 1)) zs).flatten := by
  subst hn
  have e : xs.length - k = (xs.length - (k + 1)) + 1 := by omega
  rw [e, List.replicate_succ, List.flatten_cons]
  have hl : ((xs.take k).flatMap layName.cells).length = k * 5 := by rw [flat_len]; simp [layName]; omega
  match zs, hz with
  | [z0, z1, z2, z3, z4], _ =>
    have t := List.take_succ_eq_append_getElem h
    simp only [List.cons_append, List.nil_append]
    repeat rw [List.set_append_right _ _ (by omega), hl]
    rw [t, List.flatMap_append, nthName_eq h, List.append_assoc]
    simp [layName]

theorem Tryz.info_Name : (Tryz.prog.info? 69).map (fun i => (i.zero, i.size, i.bytes)) = some (some (.agg #[.string ⟨#[]⟩, .string ⟨#[]⟩, .int .i64 0, .int .i64 0, .int .i64 0]), 5, 56) := by kernel_rfl

end Go.Proofs.YtjelmidkkpchkaaGreatDoor

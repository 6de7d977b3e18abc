/-
  What draws leave (generic part).
-/
import Derived.Test.YtdicjpkcgeofjaaGreatDoorG
import Derived.Test.YtdicjpkcgeofjaaGreatDoorJ
namespace Go.Proofs.YtdicjpkcgeofjaaGreatDoor
open Go.RowKit

theorem grown_trans {w w1 w2 : World} {r : Option Nat} (h : w.grownBy w1 r) (k : w1.grownBy w2 r) : w.grownBy w2 r :=
  ⟨k.os.trans h.os, k.tape.trans h.tape, k.output.trans h.output, Nat.le_trans h.size k.size, fun j hj hr => (k.block j (Nat.lt_of_lt_of_le hj h.size) hr).trans (h.block j hj hr)⟩
theorem grown_none {w w1 : World} {r : Option Nat} (h : w.grownBy w1 none) : w.grownBy w1 r :=
  ⟨h.os, h.tape, h.output, h.size, fun j hj _ => h.block j hj (by simp)⟩
theorem grown_ext {w w1 : World} (h : Ext w w1) (r : Option Nat) : w.grownBy w1 r := ⟨h.os, h.tape, h.output, h.size, fun j hj _ => h.block j hj⟩
theorem Drawn.grown {w w' : World} {g : Nat} (h : Drawn w g w') : w.grownBy w' (some g) :=
  ⟨h.2.os, h.2.tape, h.2.output, h.2.size, fun j hj hr => h.2.block j hj (by rintro g' e rfl; cases e; exact hr rfl)⟩
/-- What the draw's caller owns is not the source. -/
theorem own_drawn {w w' : World} {g B e sz n c m : Nat} {a : Option Addr} {xs : List Value} (h : w.ownsRow B e sz (.slice a n c) m xs) (hd : w.grownBy w' (some g)) (hg : g < B) : w'.ownsRow B e sz (.slice a n c) m xs := by
  refine ⟨h.1, ?_⟩
  rcases h.2 with hn | ⟨g', cap, cur, hv, hbg, hgg, rest⟩
  · exact .inl hn
  · refine .inr ⟨g', cap, cur, hv, hbg, ?_, rest⟩
    rw [hd.block g' (Array.getElem?_eq_some_iff.1 hgg).1 (by intro e; cases e; omega)]
    exact hgg
theorem OwnI.drawn {w w' : World} {g B n c : Nat} {a : Option Addr} {zs : List Int} (h : OwnI w B a n c zs) (hd : w.grownBy w' (some g)) (hg : g < B) : OwnI w' B a n c zs := ⟨own_drawn h.1 hd hg, h.2⟩
theorem Src.ext {w w' : World} {g : Nat} (h : Src w g) (x : Ext w w') : Src w' g := by
  obtain ⟨a, n, c, bs, i, sd, hat⟩ := h
  refine ⟨a, n, c, bs, i, sd, ⟨?_, hat.len, hat.le, hat.pos, hat.lo, hat.hi, hat.byte, ?_⟩⟩
  · rw [x.block g (Array.getElem?_eq_some_iff.1 hat.block).1]
    exact hat.block
  · rcases hat.rd with e | ⟨b, o, ha, hb, hc⟩
    · exact .inl e
    · exact .inr ⟨b, o, ha, hb, fun j u hu => by rw [Below.cell x (p := ⟨b, o + j, none⟩) (Nat.lt_trans hb (Array.getElem?_eq_some_iff.1 hat.block).1)]; exact hc j u hu⟩
/-- A write or an append to a block behind the source leaves it. -/
theorem Src.grown {w w' : World} {g : Nat} {r : Option Nat} (h : Src w g) (hw : w.grownBy w' r) (hr : ∀ k, r = some k → g < k) : Src w' g := by
  obtain ⟨a, n, c, bs, i, sd, hat⟩ := h
  have hlt := (Array.getElem?_eq_some_iff.1 hat.block).1
  refine ⟨a, n, c, bs, i, sd, ⟨?_, hat.len, hat.le, hat.pos, hat.lo, hat.hi, hat.byte, ?_⟩⟩
  · rw [hw.block g hlt (by intro e; exact absurd (hr g e.symm) (Nat.lt_irrefl _))]
    exact hat.block
  · rcases hat.rd with e | ⟨b, o, rfl, hb, hc⟩
    · exact .inl e
    · refine .inr ⟨b, o, rfl, hb, fun j u hu => ?_⟩
      rw [World.cell?_of_block (w := w) (hw.block b (Nat.lt_trans hb hlt) (by intro e; have := hr b e.symm; omega))]
      exact hc j u hu
theorem Src.lt {w : World} {g : Nat} (h : Src w g) : g < w.heap.size := by
  obtain ⟨a, n, c, bs, i, sd, hat⟩ := h
  exact (Array.getElem?_eq_some_iff.1 hat.block).1

/-- Behind an append to what the draw's caller owns: the source stands, all else that was there too. -/
theorem draw_grow {w w2 w3 : World} {o : Obj} {g B e sz m n c : Nat} {a : Option Addr} {xs : List Value} (ho : w2.ownsRow B e sz (.slice a n c) m xs) (hs : Src w2 g) (hg : g < w.heap.size) (hB : w.heap.size ≤ B)
    (h2 : w.grownBy w2 (some g)) (h3 : (w2.alloc o).grownBy w3 (Value.slice a n c).ownBlock) : Src w3 g ∧ w.grownBy w3 (some g) := by
  have ho' : (w2.alloc o).ownsRow B e sz (.slice a n c) m xs := own_ext ho ((Ext.refl _).alloc _)
  have hga := grown_trans h2 (grown_ext ((Ext.refl w2).alloc o) (some g))
  refine ⟨(hs.ext ((Ext.refl _).alloc o)).grown h3 (fun k e => by have := (ho'.lt k e).1; omega), h3.os.trans hga.os, h3.tape.trans hga.tape, h3.output.trans hga.output, Nat.le_trans hga.size h3.size, fun j hj hr => ?_⟩
  rw [h3.block j (Nat.lt_of_lt_of_le hj hga.size) (by intro e; have := (ho'.lt j e.symm).1; omega)]
  exact hga.block j hj hr

/-- The source stands, nothing else of what was there has turned. -/
def Drew (w : World) (g : Nat) (w' : World) : Prop := Src w' g ∧ w.grownBy w' (some g)
theorem Drawn.drew {w w' : World} {g : Nat} (h : Drawn w g w') : Drew w g w' := ⟨h.1, h.grown⟩
theorem Drew.of_ext {w w' : World} {g : Nat} (h : Src w g) (x : Ext w w') : Drew w g w' := ⟨h.ext x, grown_ext x _⟩
theorem Drew.trans {w w1 w2 : World} {g : Nat} (h : Drew w g w1) (k : Drew w1 g w2) : Drew w g w2 := ⟨k.1, grown_trans h.2 k.2⟩
theorem Drew.ext {w w1 w2 : World} {g : Nat} (h : Drew w g w1) (x : Ext w1 w2) : Drew w g w2 := h.trans (Drew.of_ext h.1 x)
theorem Drew.pre {w w1 w2 : World} {g : Nat} (x : Ext w w1) (h : Drew w1 g w2) : Drew w g w2 := ⟨h.1, grown_trans (grown_ext x _) h.2⟩
theorem Drew.cell {w w' : World} {g : Nat} (h : Drew w g w') {p : Addr} (hp : p.block < w.heap.size) (hg : p.block ≠ g) : w'.cell? p = w.cell? p :=
  World.cell?_of_block (w := w) (h.2.block _ hp (by intro e; cases e; exact hg rfl))
theorem Drew.size {w w' : World} {g : Nat} (h : Drew w g w') : w.heap.size ≤ w'.heap.size := h.2.size
theorem OwnG.drawn {α : Type} {L : Lay α} {e : TypeId} {w w' : World} {g B n c : Nat} {a : Option Addr} {xs : List α} (h : OwnG L e w B a n c xs) (hd : w.grownBy w' (some g)) (hg : g < B) : OwnG L e w' B a n c xs := ⟨own_drawn h.1 hd hg, h.2⟩
def shortB (v : Value) : Bool := match v with | .string s => decide (s.size ≤ 17) | _ => false
theorem short_at {xs : Array Value} (h : xs.all shortB = true) {k : Nat} (hk : k < xs.size) : ∃ s, xs[k]? = some (.string s) ∧ s.size ≤ 17 := by
  have := Array.all_eq_true.1 h k hk
  rw [Array.getElem?_eq_getElem hk]
  cases hv : xs[k] with
  | string s => rw [hv] at this; exact ⟨s, rfl, of_decide_eq_true this⟩
  | _ => rw [hv] at this; exact absurd this (by simp [shortB])
/-- Short strings lie in a block. -/
def Lits (w : World) (b n : Nat) : Prop := ∀ k, k < n → ∃ s : ByteArray, w.cell? ⟨b, k, none⟩ = some (.string s) ∧ s.size ≤ 17
theorem Lits.new {w w1 : World} {g n : Nat} {xs : Array Value} {T : TypeId} (hd : Drew (w.alloc (.cells xs T)) g w1) (hg : g < w.heap.size) (h : xs.all shortB = true) (hn : xs.size = n) : Lits w1 w.heap.size n := fun k hk => by
  obtain ⟨s, hs, hz⟩ := short_at h (k := k) (by omega)
  refine ⟨s, ?_, hz⟩
  rw [hd.cell (p := ⟨w.heap.size, k, none⟩) (by simp) (by simp only; omega), World.cell?_alloc_at _ _ _ _ rfl]
  exact hs
theorem Lits.drew {w w' : World} {g b n : Nat} (h : Lits w b n) (hd : Drew w g w') (hb : b < w.heap.size) (hg : b ≠ g) : Lits w' b n := fun k hk => by
  obtain ⟨s, hs, hz⟩ := h k hk
  exact ⟨s, by rw [hd.cell (p := ⟨b, k, none⟩) hb hg]; exact hs, hz⟩
/-- A draw of a text. -/
def DrewS (m : Nat) (w : World) (g : Nat) (e : Ending) (w' : World) : Prop := ∃ s : ByteArray, e = .returned (.string s) ∧ s.size ≤ m ∧ Drew w g w'

/-- A block of cells, as it lies. -/
def Box (w : World) (b : Nat) (xs : Array Value) (T : TypeId) : Prop := w.heap[b]? = some (.cells xs T (0, 0))
theorem Box.new (w : World) (xs : Array Value) (T : TypeId) : Box (w.alloc (.cells xs T)) w.heap.size xs T := heap_alloc_new w _
theorem Box.lt {w : World} {b : Nat} {xs : Array Value} {T : TypeId} (h : Box w b xs T) : b < w.heap.size := (Array.getElem?_eq_some_iff.1 h).1
theorem Box.drew {w w' : World} {b g : Nat} {xs : Array Value} {T : TypeId} (h : Box w b xs T) (hd : Drew w g w') (hg : b ≠ g) : Box w' b xs T :=
  (hd.2.block b h.lt (by intro e; cases e; exact hg rfl)).trans h
theorem Box.ext {w w' : World} {b : Nat} {xs : Array Value} {T : TypeId} (h : Box w b xs T) (x : Ext w w') : Box w' b xs T := (x.block b h.lt).trans h
theorem Box.cell {w : World} {b : Nat} {xs : Array Value} {T : TypeId} (h : Box w b xs T) (k : Nat) : w.cell? ⟨b, k, none⟩ = xs[k]? := by simp [World.cell?, show w.heap[b]? = _ from h]
theorem Box.frozen {w : World} {b : Nat} {xs : Array Value} {T : TypeId} (h : Box w b xs T) (k : Nat) : w.frozen? ⟨b, k, none⟩ = false := frozen_of_row w b k _ _ h
theorem Drew.setCell {w w' : World} {g b : Nat} (h : Drew w g w') (hb : w.heap.size ≤ b) (hg : g < b) (k : Nat) (v : Value) : Drew w g (w'.setCell ⟨b, k, none⟩ v) :=
  ⟨h.1.grown (r := some b) ⟨rfl, rfl, rfl, by simp [World.setCell], fun j _ hk => Below.heap_setCell _ _ _ _ (fun e => hk (by rw [e]))⟩ (by rintro k e; cases e; exact hg),
   h.2.os, h.2.tape, h.2.output, by simpa [World.setCell] using h.2.size, fun j hj hr => by
    rw [Below.heap_setCell _ _ _ _ (show j ≠ b by omega)]
    exact h.2.block j hj hr⟩
theorem RdI.lits (w : World) (zs : List Int) (xs : Array Value) (h : xs.toList = zs.map (Value.int .i64)) (hn : zs.length ≤ 100) : RdI (w.alloc (.cells xs 2)) (some ⟨w.heap.size, 0, none⟩) zs.length zs :=
  ⟨rfl, by omega, own_rd (n := zs.length) (c := zs.length) (B := 0) (e := 2) (sz := 1) (by
    have := World.ownsRow_lit (e := 2) (size := 1) w xs zs.length (Nat.zero_le _) (by unfold maxLen; omega) (by rw [← Array.length_toList, h]; simp)
    rwa [h] at this)⟩
theorem Lits.of_box {w : World} {b n : Nat} {xs : Array Value} {T : TypeId} (h : Box w b xs T) (hs : xs.all shortB = true) (hn : xs.size = n) : Lits w b n := fun k hk => by
  obtain ⟨s, e, hz⟩ := short_at hs (k := k) (by omega)
  exact ⟨s, by rw [h.cell]; exact e, hz⟩
theorem RdI.of_box {w : World} {b : Nat} {xs : Array Value} (h : Box w b xs 2) (zs : List Int) (e : xs.toList = zs.map (Value.int .i64)) (hn : zs.length ≤ 100) : RdI w (some ⟨b, 0, none⟩) zs.length zs :=
  ⟨rfl, by omega, .inr ⟨b, 0, rfl, h.lt, fun j u hu => by
    rw [Nat.zero_add, h.cell, ← hu, ← e]
    simp⟩⟩
theorem Box.set {w : World} {b : Nat} {xs : Array Value} {T : TypeId} (h : Box w b xs T) (k : Nat) (v : Value) : Box (w.setCell ⟨b, k, none⟩ v) b (xs.setIfInBounds k v) T := by
  rw [Box, heap_setCell_same w b k _ _ _ h]
theorem Box.far {w : World} {b c : Nat} {xs : Array Value} {T : TypeId} (h : Box w b xs T) (hne : b ≠ c) (k : Nat) (v : Value) : Box (w.setCell ⟨c, k, none⟩ v) b xs T :=
  (Below.heap_setCell _ _ _ _ hne).trans h
theorem withKey {G P : Prop} (k : P) (h : P → G) : G := h k

/-- A draw whose source is new memory leaves all that was. -/
theorem draw_ext {w0 w w' : World} {g : Nat} (x : Ext w0 w) (h : Drew w g w') (hg : w0.heap.size ≤ g) : Ext w0 w' := x.grown h.2 (by rintro k e; cases e; exact hg)
/-- The length in a slot. -/
def lenV : Value → Nat | .slice _ n _ => n | _ => 0
theorem pick_nat {m x : Int} (n : Nat) (e : m = (n : Int)) (hn : 0 < n) (h0 : 0 ≤ x) (h1 : x < m ∨ x = 0) : ∃ j : Nat, x = (j : Int) ∧ j < n := by
  obtain ⟨j, rfl⟩ := Int.eq_ofNat_of_zero_le h0
  exact ⟨j, rfl, by omega⟩

end Go.Proofs.YtdicjpkcgeofjaaGreatDoor

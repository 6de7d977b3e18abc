/-
  Slices of whatever elements: each element lies in so many cells; how such a slice reads, what a call owns of it, append, make, a copy element by element.
-/
import Derived.Test.YtfglmoedicijkaaGreatDoorB
namespace Go.Proofs.YtfglmoedicijkaaGreatDoor
open Go.RowKit

/-- How an element lies in cells: 'sz' of them. -/
structure Lay (α : Type) where
  cells : α → List Value
  sz : Nat
  len : ∀ x, (cells x).length = sz
  one : ∀ x, ∀ u ∈ cells x, u.oneCell' = true
  pos : 0 < sz

theorem flat_len {α : Type} (L : Lay α) (xs : List α) : (xs.flatMap L.cells).length = xs.length * L.sz := by
  induction xs with
  | nil => simp
  | cons x xs ih => rw [List.flatMap_cons, List.length_append, ih, L.len, List.length_cons, Nat.succ_mul, Nat.add_comm]
theorem flat_one {α : Type} (L : Lay α) (xs : List α) : ∀ u ∈ xs.flatMap L.cells, u.oneCell' = true := by
  intro u hu
  obtain ⟨x, _, hx⟩ := List.mem_flatMap.1 hu
  exact L.one x u hx
theorem flat_get {α : Type} (L : Lay α) (xs : List α) (k j : Nat) (x : α) (hk : xs[k]? = some x) (hj : j < L.sz) : (xs.flatMap L.cells)[k * L.sz + j]? = (L.cells x)[j]? := by
  induction xs generalizing k with
  | nil => simp at hk
  | cons y ys ih =>
    cases k with
    | zero =>
      simp at hk; subst hk
      rw [List.flatMap_cons, Nat.zero_mul, Nat.zero_add, List.getElem?_append_left (by rw [L.len]; exact hj)]
    | succ k =>
      rw [List.flatMap_cons, List.getElem?_append_right (by rw [L.len, Nat.succ_mul]; omega), L.len]
      rw [show (k + 1) * L.sz + j - L.sz = k * L.sz + j by rw [Nat.succ_mul]; omega]
      exact ih k (by simpa using hk)

/-- A slice of n elements reads as xs. -/
def RdG {α : Type} (L : Lay α) (w : World) (a : Option Addr) (n : Nat) (xs : List α) : Prop := xs.length = n ∧ n ≤ 4294967296 ∧ Rd w a (xs.flatMap L.cells)
theorem RdG.ext {α : Type} {L : Lay α} {w w' : World} {a : Option Addr} {n : Nat} {xs : List α} (h : RdG L w a n xs) (hb : Ext w w') : RdG L w' a n xs := ⟨h.1, h.2.1, h.2.2.ext hb⟩
theorem RdG.nil {α : Type} (L : Lay α) (w : World) (a : Option Addr) : RdG L w a 0 [] := ⟨rfl, by decide, .inl rfl⟩
theorem RdG.len {α : Type} {L : Lay α} {w : World} {a : Option Addr} {n : Nat} {xs : List α} (h : RdG L w a n xs) : xs.length = n := h.1
theorem RdG.le {α : Type} {L : Lay α} {w : World} {a : Option Addr} {n : Nat} {xs : List α} (h : RdG L w a n xs) : n ≤ 4294967296 := h.2.1
theorem RdG.isNone {α : Type} {L : Lay α} {w : World} {n : Nat} {xs : List α} (h : RdG L w none n xs) : n = 0 ∧ xs = [] := by
  have hz : xs = [] := by
    rcases h.2.2 with h' | ⟨b, o, h', _⟩
    · have := flat_len L xs
      rw [h'] at this
      simp only [List.length_nil] at this
      rcases Nat.mul_eq_zero.1 this.symm with h2 | h2
      · exact List.eq_nil_of_length_eq_zero h2
      · have := L.pos; omega
    · cases h'
  subst hz
  exact ⟨h.1.symm, rfl⟩
/-- The cells of its elements. -/
theorem RdG.at {α : Type} {L : Lay α} {w : World} {a : Option Addr} {n : Nat} {xs : List α} (h : RdG L w a n xs) (hn : 0 < n) :
    ∃ b o, a = some ⟨b, o, none⟩ ∧ b < w.heap.size ∧ ∀ k x, xs[k]? = some x → ∀ j u, (L.cells x)[j]? = some u → w.cell? ⟨b, o + (k * L.sz + j), none⟩ = some u := by
  obtain ⟨b, o, ha, hb, hc⟩ := h.2.2.pos (by rw [flat_len, h.1]; exact Nat.mul_pos hn L.pos)
  refine ⟨b, o, ha, hb, fun k x hk j u hu => hc _ u ?_⟩
  rw [flat_get L xs k j x hk (by rw [← L.len x]; exact (List.getElem?_eq_some_iff.1 hu).1)]
  exact hu

/-- What the call itself made. -/
def OwnG {α : Type} (L : Lay α) (e : TypeId) (w : World) (B : Nat) (a : Option Addr) (n c : Nat) (xs : List α) : Prop := w.ownsRow B e L.sz (.slice a n c) n (xs.flatMap L.cells) ∧ n ≤ 4294967296
theorem OwnG.rd {α : Type} {L : Lay α} {e : TypeId} {w : World} {B n c : Nat} {a : Option Addr} {xs : List α} (h : OwnG L e w B a n c xs) : RdG L w a n xs := by
  refine ⟨?_, h.2, own_rd h.1⟩
  have h1 := h.1.1
  rw [flat_len] at h1
  exact Nat.eq_of_mul_eq_mul_right L.pos h1
theorem OwnG.ext {α : Type} {L : Lay α} {e : TypeId} {w w' : World} {B n c : Nat} {a : Option Addr} {xs : List α} (h : OwnG L e w B a n c xs) (hb : Ext w w') : OwnG L e w' B a n c xs := ⟨own_ext h.1 hb, h.2⟩
theorem OwnG.mono {α : Type} {L : Lay α} {e : TypeId} {w : World} {B B' n c : Nat} {a : Option Addr} {xs : List α} (h : OwnG L e w B a n c xs) (hb : B' ≤ B) : OwnG L e w B' a n c xs := ⟨own_mono h.1 hb, h.2⟩
theorem OwnG.isNil {α : Type} (L : Lay α) (e : TypeId) (w : World) (B : Nat) : OwnG L e w B none 0 0 [] := ⟨by simpa using World.ownsRow_nil w B e L.sz, by decide⟩
theorem OwnG.alloc {α : Type} {L : Lay α} {e : TypeId} {w : World} {B n c : Nat} {a : Option Addr} {xs : List α} (h : OwnG L e w B a n c xs) (o : Obj) : OwnG L e (w.alloc o) B a n c xs := h.ext ((Ext.refl _).alloc _)
theorem OwnG.lit {α : Type} (L : Lay α) (e : TypeId) (w : World) {B : Nat} (hB : B ≤ w.heap.size) (xs : List α) (cs : Array Value) (hcs : cs.toList = xs.flatMap L.cells) (hn : xs.length ≤ 4294967296) :
    OwnG L e (w.alloc (.cells cs e)) B (some ⟨w.heap.size, 0, none⟩) xs.length xs.length xs := by
  refine ⟨?_, hn⟩
  have := World.ownsRow_lit (e := e) (size := L.sz) w cs xs.length hB (by unfold maxLen; omega) (by rw [← Array.length_toList, hcs, flat_len])
  rwa [hcs] at this

/-- What a call that hands back a slice in new memory leaves. -/
def NewG {α : Type} (L : Lay α) (e : TypeId) (w w' : World) (xs : List α) (v : Value) : Prop := ∃ a n c, v = .slice a n c ∧ OwnG L e w' w.heap.size a n c xs ∧ Ext w w'
theorem NewG.nil {α : Type} (L : Lay α) (e : TypeId) (w w' : World) (h : Ext w w') : NewG L e w w' [] (.slice none 0 0) := ⟨none, 0, 0, rfl, OwnG.isNil L e _ _, h⟩
theorem NewG.pre {α : Type} {L : Lay α} {e : TypeId} {w0 w w' : World} {xs : List α} {v : Value} (h0 : Ext w0 w) (h : NewG L e w w' xs v) : NewG L e w0 w' xs v := by
  obtain ⟨a, n, c, rfl, ho, hx⟩ := h
  exact ⟨a, n, c, rfl, ho.mono h0.size, h0.trans hx⟩

/-- append(s, x...): s is the call's own, x any slice of the same elements. 'z': the element's zero value; 'bytes': its width. -/
theorem wpList_appG {α : Type} (L : Lay α) {P : Program} {w : World} {ops : Array Oper} {rest : List Oper} {o : Oper} {a : Act} {Q : Exit → Act → World → Prop} (hgd : o.guard = none) (s x : Operand) (t e : TypeId)
    (ho : o.op = .call { callee := .builtin .append, args := #[s, x], argTypes := #[t, t] }) (ht : P.underlying t = some (.slice e)) (z : Value) (bytes : Nat)
    (hinfo : (P.info? e).map (fun i => (i.zero, i.size, i.bytes)) = some (some z, L.sz, bytes)) (hzs : z.cells.size = L.sz) (hby : bytes ≤ 128)
    (B : Nat) (sa : Option Addr) (n sc : Nat) (xs : List α) (hs : a.eval s = .slice sa n sc) (hown : OwnG L e w B sa n sc xs)
    (ad : Option Addr) (m c : Nat) (ys : List α) (hx : a.eval x = .slice ad m c) (hr : RdG L w ad m ys) (hsum : n + m ≤ 4294967296) (hB : B ≤ w.heap.size)
    (h : ∀ a' c' w', OwnG L e w' B a' (n + m) c' (xs ++ ys) → w.grownBy w' (Value.slice sa n sc).ownBlock → wpList P ops Q rest (a.put o.dst (.slice a' (n + m) c')) w') : wpList P ops Q (o :: rest) a w := by
  obtain ⟨i, hi, hz0, hz1, hz2⟩ := info_parts hinfo
  refine wpList_append_row hgd s x t ho B e i z L.sz bytes ht hi hz0 hz1 hz2 hzs L.pos _ n _ hs hown.1 ad m c (ys.flatMap L.cells) hx (by rw [flat_len, hr.len]) hr.2.2 (flat_one L ys) ?_ ?_ hB ?_
  · unfold maxLen; omega
  · calc (n + m) * bytes ≤ 4294967296 * 128 := Nat.mul_le_mul hsum hby
      _ ≤ 140737488355328 := by decide
  · intro v' w' h1 h2 _
    obtain ⟨a', c', rfl⟩ := own_slice h1
    exact h a' c' w' ⟨by rw [List.flatMap_append]; exact h1, hsum⟩ h2

/-- One element in a block of its own, as append's second argument. -/
theorem RdG.new1 {α : Type} (L : Lay α) (w : World) (x : α) (cs : Array Value) (hcs : cs.toList = L.cells x) (e : TypeId) : RdG L (w.alloc (.cells cs e)) (some ⟨w.heap.size, 0, none⟩) 1 [x] :=
  ⟨rfl, by decide, (OwnG.lit L e w (Nat.zero_le _) [x] cs (by simpa using hcs) (by simp)).rd.2.2⟩

/-- Behind an append of one element to what the call owns. -/
theorem Ext.appG {α : Type} {L : Lay α} {e : TypeId} {w wr w2 : World} {o : Obj} {B n c : Nat} {a : Option Addr} {xs : List α} (hb : Ext w wr) (ho : OwnG L e wr B a n c xs) (hB : w.heap.size ≤ B) (hg : (wr.alloc o).grownBy w2 (Value.slice a n c).ownBlock) : Ext w w2 :=
  (hb.alloc o).grown hg fun k e => Nat.le_trans hB (ho.1.lt k e).1

/-- The same, kept by a write to another block. -/
theorem OwnG.kept {α β : Type} {L : Lay α} {M : Lay β} {e e' : TypeId} {w w' : World} {B B' n n' c c' : Nat} {a a' : Option Addr} {xs : List α} {ys : List β} (h : Wrote w w' a) (ho : OwnG M e' w B' a' n' c' ys)
    (hw : ∃ w1 : World, OwnG L e w1 B a n c xs ∧ w1.heap.size ≤ B') : OwnG M e' w' B' a' n' c' ys := by
  obtain ⟨w1, h1, h2⟩ := hw
  exact ⟨h.kept ho.1 ⟨w1, h1.1, h2⟩, ho.2⟩

/-- A row of elements of which the first k are written, the rest are zero. -/
def partly {α : Type} (L : Lay α) (xs : List α) (k : Nat) (z : List Value) (n : Nat) : List Value := (xs.take k).flatMap L.cells ++ (List.replicate (n - k) z).flatten
theorem made_rep (z : Value) (sz n : Nat) (hz : z.cells.size = sz) (hp : 0 < sz) : (madeCells z.cells (n * sz)).toList = (List.replicate n z.cells.toList).flatten := by
  apply List.ext_getElem?
  intro j
  by_cases hj : j < n * sz
  · have hq : j / sz < n := Nat.div_lt_of_lt_mul (by rwa [Nat.mul_comm] at hj)
    have hm : j % sz < sz := Nat.mod_lt _ hp
    have key : ∀ (m i : Nat), i < m * sz → (List.replicate m z.cells.toList).flatten[i]? = z.cells.toList[i % sz]? := by
      intro m
      induction m with
      | zero => intro i hi; simp at hi
      | succ m ih =>
        intro i hi
        rw [List.replicate_succ, List.flatten_cons]
        by_cases h : i < sz
        · rw [List.getElem?_append_left (by simpa [hz] using h), Nat.mod_eq_of_lt h]
        · rw [List.getElem?_append_right (by simpa [hz] using Nat.le_of_not_lt h)]
          simp only [Array.length_toList, hz]
          rw [ih (i - sz) (by rw [Nat.succ_mul] at hi; omega), ← Nat.mod_eq_sub_mod (Nat.le_of_not_lt h)]
    rw [key n j hj]
    have hs : (j % sz) < z.cells.size := by rw [hz]; exact hm
    simp only [madeCells, Array.getElem?_toList, Array.getElem?_map, Array.getElem?_range, hj, if_true, Option.map_some, hz]
    rw [Array.getElem?_eq_getElem hs, getElem!_pos z.cells _ hs]
  · have h1 : (List.replicate n z.cells.toList).flatten.length = n * sz := by simp [hz]
    have h2 : (madeCells z.cells (n * sz)).toList.length = n * sz := by simp [madeCells]
    rw [List.getElem?_eq_none (by rw [h2]; omega), List.getElem?_eq_none (by rw [h1]; omega)]

theorem own_oldG {w : World} {B e sz g n c : Nat} {xs : List Value} (h : w.ownsRow B e sz (.slice (some ⟨g, 0, none⟩) n c) n xs) (j : Nat) (hj : j < n * sz) : ∃ u, w.cell? ⟨g, j, none⟩ = some u := by
  have hl := h.1
  have hc := h.cellAt j (by omega)
  exact ⟨_, hc.trans (List.getElem?_eq_getElem (by omega))⟩

end Go.Proofs.YtfglmoedicijkaaGreatDoor

/-
  The words that the other texts of this seat use: how a slice's cells read in a world, what a call leaves alone, and laws for the built-in append and make in that form.
-/
import Derived.Test.YtfglmoedicijkaaGreatDoorRows
import Derived.Test.YtfglmoedicijkaaGreatDoorP
import Derived.WalkKit
import Derived.WalkSpells
import Derived.WalkLawsBesides
import Derived.Lib.Hide
namespace Go.Proofs.YtfglmoedicijkaaGreatDoor
open Go.RowKit

/-- All that was there in w is there in w', unchanged. -/
def Ext (w w' : World) : Prop := Below w.heap.size w w'

theorem Ext.refl (w : World) : Ext w w := Below.refl _ _
theorem Ext.trans {a b c : World} (h : Ext a b) (k : Ext b c) : Ext a c := Below.trans h (Below.mono k h.size)
theorem Ext.size {a b : World} (h : Ext a b) : a.heap.size ≤ b.heap.size := Below.size h
theorem Ext.drew {a b : World} (h : Ext a b) : Ext a b.drew := Below.drew h
theorem Ext.alloc {a b : World} (h : Ext a b) (o : Obj) : Ext a (b.alloc o) := Below.alloc h h.size o
theorem Ext.setCell {a b : World} (h : Ext a b) {p : Addr} (hp : a.heap.size ≤ p.block) (u : Value) : Ext a (b.setCell p u) := Below.setCell h hp u
theorem Ext.grown {a b c : World} {row : Option Nat} (h : Ext a b) (hg : b.grownBy c row) (hr : ∀ k, row = some k → a.heap.size ≤ k) : Ext a c := Below.grown h hg h.size hr
theorem Ext.grown0 {a b c : World} (h : Ext a b) (hg : b.grownBy c none) : Ext a c := h.grown hg (by simp)
theorem Ext.wrote {a b c : World} {g : Nat} (h : Ext a b) (hg : b.grownBy c (some g)) (hr : a.heap.size ≤ g) : Ext a c := h.grown hg (by intro k e; cases e; exact hr)

/-- Neither blocks nor anything else has turned; at most some answers have been drawn. -/
def Still (w w' : World) : Prop := w'.heap = w.heap ∧ w'.tape = w.tape ∧ w'.os = w.os ∧ w'.output = w.output
theorem Still.refl (w : World) : Still w w := ⟨rfl, rfl, rfl, rfl⟩
theorem Still.drew {a b : World} (h : Still a b) : Still a b.drew := h
theorem Still.drewN {a b : World} (h : Still a b) (n : Nat) : Still a (b.drewN n) := h
theorem Still.trans {a b c : World} (h : Still a b) (k : Still b c) : Still a c := ⟨k.1.trans h.1, k.2.1.trans h.2.1, k.2.2.1.trans h.2.2.1, k.2.2.2.trans h.2.2.2⟩
theorem Still.ext {a b : World} (h : Still a b) : Ext a b := ⟨h.2.2.1, h.2.1, h.2.2.2, by rw [h.1]; exact Nat.le_refl _, fun _ _ => by rw [h.1]⟩

/-- The cells xs lie, in w, from a slice's address on. -/
def Rd (w : World) (a : Option Addr) (xs : List Value) : Prop :=
  xs = [] ∨ ∃ b o, a = some ⟨b, o, none⟩ ∧ b < w.heap.size ∧ ∀ j u, xs[j]? = some u → w.cell? ⟨b, o + j, none⟩ = some u

theorem Rd.nil (w : World) (a : Option Addr) : Rd w a [] := .inl rfl

theorem Rd.pos {w : World} {a : Option Addr} {xs : List Value} (h : Rd w a xs) (hn : 0 < xs.length) : ∃ b o, a = some ⟨b, o, none⟩ ∧ b < w.heap.size ∧ ∀ j u, xs[j]? = some u → w.cell? ⟨b, o + j, none⟩ = some u := by
  rcases h with rfl | h
  · simp at hn
  · exact h

theorem Rd.ext {w w' : World} {a : Option Addr} {xs : List Value} (h : Rd w a xs) (hb : Ext w w') : Rd w' a xs := by
  rcases h with rfl | ⟨b, o, rfl, hlt, hc⟩
  · exact .inl rfl
  · exact .inr ⟨b, o, rfl, Nat.lt_of_lt_of_le hlt hb.size, fun j u hu => by rw [Below.cell hb (p := ⟨b, o + j, none⟩) hlt]; exact hc j u hu⟩

theorem Rd.cells {w : World} {a : Option Addr} {xs : List Value} (h : Rd w a xs) : ∀ ad, a = some ad → ∀ j u, xs[j]? = some u → w.cell? (ad.add j) = some u := by
  rcases h with rfl | ⟨b, o, rfl, _, hc⟩
  · simp
  · intro ad e j u hu
    cases e
    rw [Addr.add_lit]
    exact hc j u hu

/-- A slice of n ints reads as zs. -/
def RdI (w : World) (a : Option Addr) (n : Nat) (zs : List Int) : Prop := zs.length = n ∧ n ≤ 4294967296 ∧ Rd w a (zs.map (Value.int .i64))

theorem RdI.ext {w w' : World} {a : Option Addr} {n : Nat} {zs : List Int} (h : RdI w a n zs) (hb : Ext w w') : RdI w' a n zs := ⟨h.1, h.2.1, h.2.2.ext hb⟩
theorem RdI.nil (w : World) (a : Option Addr) : RdI w a 0 [] := ⟨rfl, by decide, .inl rfl⟩
theorem RdI.len {w : World} {a : Option Addr} {n : Nat} {zs : List Int} (h : RdI w a n zs) : zs.length = n := h.1
theorem RdI.le {w : World} {a : Option Addr} {n : Nat} {zs : List Int} (h : RdI w a n zs) : n ≤ 4294967296 := h.2.1

/-- One element of such a slice. -/
theorem RdI.at {w : World} {a : Option Addr} {n : Nat} {zs : List Int} (h : RdI w a n zs) (hn : 0 < n) : ∃ b o, a = some ⟨b, o, none⟩ ∧ b < w.heap.size ∧ ∀ k, k < n → w.cell? ⟨b, o + k, none⟩ = some (.int .i64 (nth zs k)) := by
  obtain ⟨b, o, ha, hb, hc⟩ := h.2.2.pos (by rw [List.length_map, h.1]; exact hn)
  exact ⟨b, o, ha, hb, fun k hk => hc k _ (by have := h.1; simp [nth, show k < zs.length by omega])⟩

/-- What the call itself made: a slice of n ints in a block from number B on. -/
def OwnI (w : World) (B : Nat) (a : Option Addr) (n c : Nat) (zs : List Int) : Prop := w.ownsRow B 2 1 (.slice a n c) n (zs.map (Value.int .i64)) ∧ n ≤ 4294967296

theorem own_addr {w : World} {B e sz n m c : Nat} {a : Option Addr} {xs : List Value} (h : w.ownsRow B e sz (.slice a n c) m xs) : a = none ∨ ∃ g, a = some ⟨g, 0, none⟩ := by
  rcases h.2 with ⟨h', _⟩ | ⟨g, cap, cur, h', _⟩
  · simp at h'; exact .inl h'.1
  · simp at h'; exact .inr ⟨g, h'.1⟩

theorem own_slice {w : World} {B e sz n : Nat} {v : Value} {xs : List Value} (h : w.ownsRow B e sz v n xs) : ∃ a c, v = .slice a n c := by
  rcases h.2 with ⟨rfl, rfl⟩ | ⟨g, cap, cur, rfl, _⟩
  · exact ⟨none, 0, rfl⟩
  · exact ⟨_, cap, rfl⟩

theorem own_rd {w : World} {B e sz n c : Nat} {a : Option Addr} {xs : List Value} (h : w.ownsRow B e sz (.slice a n c) n xs) : Rd w a xs := by
  rcases own_addr h with rfl | ⟨g, rfl⟩
  · rcases h.2 with ⟨_, rfl⟩ | ⟨g, cap, cur, h', _⟩
    · exact .inl (List.eq_nil_of_length_eq_zero (by simpa using h.1))
    · simp at h'
  · have hl := h.1
    by_cases h0 : n * sz = 0
    · exact .inl (List.eq_nil_of_length_eq_zero (by omega))
    · refine .inr ⟨g, 0, rfl, (h.lt g rfl).2, fun j u hu => ?_⟩
      have hj : j < n * sz := by rw [← hl]; exact (List.getElem?_eq_some_iff.1 hu).1
      rw [Nat.zero_add, h.cellAt j hj, hu]

theorem OwnI.rd {w : World} {B n c : Nat} {a : Option Addr} {zs : List Int} (h : OwnI w B a n c zs) : RdI w a n zs :=
  ⟨by simpa using h.1.1, h.2, own_rd h.1⟩

theorem own_ext {w w' : World} {B e sz n : Nat} {v : Value} {xs : List Value} (h : w.ownsRow B e sz v n xs) (hb : Ext w w') : w'.ownsRow B e sz v n xs := by
  refine ⟨h.1, ?_⟩
  rcases h.2 with hn | ⟨g, cap, cur, rfl, hbg, hgg, rest⟩
  · exact .inl hn
  · refine .inr ⟨g, cap, cur, rfl, hbg, ?_, rest⟩
    rw [hb.block g (Array.getElem?_eq_some_iff.1 hgg).1]
    exact hgg
theorem own_mono {w : World} {B B' e sz n : Nat} {v : Value} {xs : List Value} (h : w.ownsRow B e sz v n xs) (hb : B' ≤ B) : w.ownsRow B' e sz v n xs := by
  refine ⟨h.1, ?_⟩
  rcases h.2 with hn | ⟨g, cap, cur, rfl, hbg, rest⟩
  · exact .inl hn
  · exact .inr ⟨g, cap, cur, rfl, Nat.le_trans hb hbg, rest⟩

theorem OwnI.ext {w w' : World} {B n c : Nat} {a : Option Addr} {zs : List Int} (h : OwnI w B a n c zs) (hb : Ext w w') : OwnI w' B a n c zs := ⟨own_ext h.1 hb, h.2⟩
theorem OwnI.mono {w : World} {B B' n c : Nat} {a : Option Addr} {zs : List Int} (h : OwnI w B a n c zs) (hb : B' ≤ B) : OwnI w B' a n c zs := ⟨own_mono h.1 hb, h.2⟩

theorem own_old {w : World} {B e g n c : Nat} {xs : List Value} (h : w.ownsRow B e 1 (.slice (some ⟨g, 0, none⟩) n c) n xs) (j : Nat) (hj : j < n) : ∃ u, w.cell? ⟨g, j, none⟩ = some u := by
  have hc := h.cellAt j (by omega)
  have hl := h.1
  exact ⟨_, hc.trans (List.getElem?_eq_getElem (by omega))⟩

/-- What a call that hands back a slice of ints in new memory leaves. -/
def NewI (w w' : World) (zs : List Int) (v : Value) : Prop := ∃ a n c, v = .slice a n c ∧ OwnI w' w.heap.size a n c zs ∧ Ext w w'

theorem Tryz.info_i64 : (Tryz.prog.info? 2).map (fun i => (i.zero, i.size, i.bytes)) = some (some (.int .i64 0), 1, 8) := by kernel_rfl

/-- append of what another slice holds, nil or not. -/
theorem wpList_append_row {P : Program} {w : World} {ops : Array Oper} {rest : List Oper} {o : Oper} {a : Act} {Q : Exit → Act → World → Prop} (hgd : o.guard = none) (s x : Operand) (t : TypeId)
    (ho : o.op = .call { callee := .builtin .append, args := #[s, x], argTypes := #[t, t] })
    (base : Nat) (e : TypeId) (i : TypeInfo) (z : Value) (size bytes : Nat) (ht : P.underlying t = some (.slice e)) (hi : P.info? e = some i) (hz : i.zero = some z)
    (hsize : i.size = size) (hby : i.bytes = bytes) (hzs : z.cells.size = size) (hsz : 0 < size)
    (v : Value) (n : Nat) (xs : List Value) (hs : a.eval s = v) (hown : w.ownsRow base e size v n xs)
    (ad : Option Addr) (m c : Nat) (news : List Value) (hx : a.eval x = .slice ad m c) (hl : news.length = m * size) (hrd : Rd w ad news) (h1 : ∀ u ∈ news, u.oneCell' = true)
    (h63 : n + m ≤ maxLen) (hbytes : (n + m) * bytes ≤ 140737488355328) (hbase : base ≤ w.heap.size)
    (h : ∀ v' w', w'.ownsRow base e size v' (n + m) (xs ++ news) → w.grownBy w' v.ownBlock → (v' = .slice none 0 0 ↔ v = .slice none 0 0 ∧ m = 0) → wpList P ops Q rest (a.put o.dst v') w') : wpList P ops Q (o :: rest) a w := by
  cases ad with
  | some ad => exact wpList_append_own w hgd s x t ho base e i z size bytes ht hi hz hsize hby hzs hsz v n xs hs hown ad m c news hx hl (hrd.cells ad rfl) h1 h63 hbytes hbase h
  | none =>
    have hnews : news = [] := by
      rcases hrd with h | ⟨b, o, h, _⟩
      · exact h
      · cases h
    subst hnews
    have hm : m = 0 := by
      have : m * size = 0 := by simpa using hl.symm
      rcases Nat.mul_eq_zero.1 this with h | h
      · exact h
      · omega
    subst hm
    refine wpList_plain hgd fun K hK => ?_
    have hrun : (Builtin.append_ #[t, t] o.type #[v, .slice none 0 c]).run P w = .ok v w := by
      rcases hown.2 with ⟨rfl, rfl⟩ | ⟨g, cap, cur, rfl, _, _, hnc, _⟩
      · simp [Builtin.append_, run_underlying ht, sizeOf, typeInfo, hi, Builtin.lenOf, Builtin.firstCells]
      · simp [Builtin.append_, run_underlying ht, sizeOf, typeInfo, hi, Builtin.lenOf, Builtin.firstCells, hnc, storeCells]
    unfold Oper.wp
    simp [execOp, ho, resolve, invoke, builtin, hs, hx, hrun, Result.andThen]
    exact hK _ _ (h v w (by simpa using hown) (World.grownBy.refl _ _) (by simp))

theorem ret_int {k : IntKind} {a b : Int} (h : a = b) : Ending.returned (.int k a) = .returned (.int k b) := by rw [h]
theorem ret_bool {a b : Bool} (h : a = b) : Ending.returned (.bool a) = .returned (.bool b) := by rw [h]
theorem ret_str {a b : List UInt8} (h : a = b) : Ending.returned (.string ⟨a.toArray⟩) = .returned (.string ⟨b.toArray⟩) := by rw [h]

/-- append of one element: the value and its one-cell block. -/
theorem cell_new1 (w : World) (u : Value) (e : TypeId) : ∀ j x, ([u] : List Value)[j]? = some x → (w.alloc (.cells #[u] e)).cell? ((⟨w.heap.size, 0, none⟩ : Addr).add j) = some x := by
  intro j x hx
  cases j with
  | zero => simp at hx; subst hx; simp [Addr.add, World.cell?_alloc_at]
  | succ j => simp at hx

theorem RdI.new1 (w : World) (x : Int) (e : TypeId) : RdI (w.alloc (.cells #[.int .i64 x] e)) (some ⟨w.heap.size, 0, none⟩) 1 [x] :=
  ⟨rfl, by decide, .inr ⟨_, _, rfl, by simp, fun j u hu => by
    have := cell_new1 w (.int .i64 x) e j u hu
    rw [Addr.add_lit] at this
    exact this⟩⟩

theorem RdI.isNone {w : World} {n : Nat} {zs : List Int} (h : RdI w none n zs) : n = 0 ∧ zs = [] := by
  have hz : zs = [] := by
    rcases h.2.2 with h | ⟨b, o, h, _⟩
    · simpa using h
    · cases h
  subst hz
  exact ⟨h.1.symm, rfl⟩

/-- append(s, x...) at []int64: s is the call's own, x any slice. -/
theorem wpList_appI {w : World} {ops : Array Oper} {rest : List Oper} {o : Oper} {a : Act} {Q : Exit → Act → World → Prop} (hgd : o.guard = none) (s x : Operand)
    (ho : o.op = .call { callee := .builtin .append, args := #[s, x], argTypes := #[24, 24] })
    (B : Nat) (v : Value) (n : Nat) (xs : List Int) (hs : a.eval s = v) (hown : w.ownsRow B 2 1 v n (xs.map (Value.int .i64)))
    (ad : Option Addr) (m c : Nat) (ys : List Int) (hx : a.eval x = .slice ad m c) (hr : RdI w ad m ys) (hsum : n + m ≤ 4294967296) (hB : B ≤ w.heap.size)
    (h : ∀ a' c' w', OwnI w' B a' (n + m) c' (xs ++ ys) → w.grownBy w' v.ownBlock → wpList Tryz.prog ops Q rest (a.put o.dst (.slice a' (n + m) c')) w') : wpList Tryz.prog ops Q (o :: rest) a w := by
  obtain ⟨i, hi, hz0, hz1, hz2⟩ := info_parts Tryz.info_i64
  refine wpList_append_row hgd s x 24 ho B 2 i (.int .i64 0) 1 8 Tryz.underlying24 hi hz0 hz1 hz2 rfl (by decide) v n _ hs hown ad m c (ys.map (Value.int .i64)) hx (by simpa using hr.len) hr.2.2 ?_ ?_ ?_ hB ?_
  · intro u hu
    obtain ⟨_, _, rfl⟩ := List.mem_map.1 hu
    rfl
  · unfold maxLen; omega
  · omega
  · intro v' w' h1 h2 _
    obtain ⟨a', c', rfl⟩ := own_slice h1
    exact h a' c' w' ⟨by simpa using h1, hsum⟩ h2

/-- []int64 made out of nothing, or of given elements. -/
theorem OwnI.lit0 (w : World) {B : Nat} (hB : B ≤ w.heap.size) : (w.alloc (.cells #[] 2)).ownsRow B 2 1 (.slice (some ⟨w.heap.size, 0, none⟩) 0 0) 0 (([] : List Int).map (Value.int .i64)) := by
  simpa using World.ownsRow_lit w #[] 0 hB (Nat.zero_le _) rfl
theorem OwnI.lit1 (w : World) (x : Int) {B : Nat} (hB : B ≤ w.heap.size) : (w.alloc (.cells #[.int .i64 x] 2)).ownsRow B 2 1 (.slice (some ⟨w.heap.size, 0, none⟩) 1 1) 1 (([x] : List Int).map (Value.int .i64)) := by
  simpa using World.ownsRow_lit w #[.int .i64 x] 1 hB (by decide) rfl
theorem OwnI.isNil (w : World) (B : Nat) : w.ownsRow B 2 1 (.slice none 0 0) 0 (([] : List Int).map (Value.int .i64)) := by
  simpa using World.ownsRow_nil w B 2 1

/-- Behind an append of one element to what the call owns. -/
theorem Ext.app {w wr w2 : World} {o : Obj} {B n c : Nat} {a : Option Addr} {xs : List Int} (hb : Ext w wr) (ho : OwnI wr B a n c xs) (hB : w.heap.size ≤ B) (hg : (wr.alloc o).grownBy w2 (Value.slice a n c).ownBlock) : Ext w w2 :=
  (hb.alloc o).grown hg fun k e => Nat.le_trans hB (ho.1.lt k e).1
theorem OwnI.alloc {w : World} {B n c : Nat} {a : Option Addr} {xs : List Int} (ho : OwnI w B a n c xs) (o : Obj) : (w.alloc o).ownsRow B 2 1 (.slice a n c) n (xs.map (Value.int .i64)) := own_ext ho.1 ((Ext.refl _).alloc _)
theorem Ext.le_alloc {w wr : World} (hb : Ext w wr) (o : Obj) : w.heap.size ≤ (wr.alloc o).heap.size := (hb.alloc o).size

end Go.Proofs.YtfglmoedicijkaaGreatDoor

/-
  Texts of this claim, put together.
-/
import Derived.Test.YtjelmidkkpchkaaGreatDoorRows
import Derived.WalkKit
import Derived.WalkSpells
import Derived.WalkLawsBesides
import Derived.Lib.Hide
import Derived.Deep.QuietTactic
import Derived.BigQuiet
import Derived.Lib.Split
import Derived.WideShapes
import Derived.Shelf.Strings.SlTrimAscii
import Derived.Test.YtjelmidkkpchkaaGreatDoorShelf
import Derived.RegionTactic
import Derived.Deep.RegionHeld
import Derived.Deep.Upon
import Derived.Deep.RegionLaw
import Derived.Lib.SliceRun
import Derived.ProofKit
import Derived.OpenShut
import Derived.ShutString
import Derived.ChangeOld
import Derived.Below

section
namespace Go.Proofs.YtjelmidkkpchkaaGreatDoor

/-- The element with an index (0 beyond the end), behind a name. -/
def nth (zs : List Int) (k : Nat) : Int := zs.getD k 0
theorem nth_eq {zs : List Int} {k : Nat} (h : k < zs.length) : nth zs k = zs[k] := by simp [nth, h]

/-- x lies within lo and hi. -/
def inB (x lo hi : Int) : Bool := decide (lo ≤ x) && decide (x ≤ hi)
theorem inB_iff {x lo hi : Int} : inB x lo hi = true ↔ lo ≤ x ∧ x ≤ hi := by simp [inB]
theorem inB_yes {x lo hi : Int} (h1 : lo ≤ x) (h2 : x ≤ hi) : inB x lo hi = true := inB_iff.2 ⟨h1, h2⟩
theorem inB_not {x lo hi : Int} : inB x lo hi = false ↔ ¬ (lo ≤ x ∧ x ≤ hi) := by rw [← inB_iff]; simp

/-- All of zs lie within lo and hi. -/
def allIn (zs : List Int) (lo hi : Int) : Bool := zs.all fun z => inB z lo hi
theorem allIn_false {zs : List Int} {lo hi : Int} {k : Nat} (hk : k < zs.length) (h : inB (nth zs k) lo hi = false) : allIn zs lo hi = false := by
  rw [allIn, List.all_eq_false]
  exact ⟨zs[k], List.getElem_mem hk, by simpa [nth_eq hk] using h⟩
theorem allIn_true {zs : List Int} {lo hi : Int} (h : ∀ k, k < zs.length → inB (nth zs k) lo hi = true) : allIn zs lo hi = true := by
  rw [allIn, List.all_eq_true]
  intro z hz
  obtain ⟨k, hk, rfl⟩ := List.getElem_of_mem hz
  simpa [nth_eq hk] using h k hk

/-- x stands in zs. -/
def hasI (zs : List Int) (x : Int) : Bool := zs.contains x
theorem mem_nth {zs : List Int} {x : Int} {k : Nat} (hk : k < zs.length) (h : nth zs k = x) : hasI zs x = true := by
  rw [hasI, List.contains_iff_mem, ← h, nth_eq hk]
  exact List.getElem_mem hk
theorem not_mem_nth {zs : List Int} {x : Int} (h : ∀ k, k < zs.length → nth zs k ≠ x) : hasI zs x = false := by
  rw [hasI, ← Bool.not_eq_true, List.contains_iff_mem]
  intro hx
  obtain ⟨k, hk, e⟩ := List.getElem_of_mem hx
  exact h k hk (by rw [nth_eq hk, e])

/-- The first place of x, or -1. -/
def idxOf (zs : List Int) (x : Int) : Int := match zs.findIdx? (· == x) with | some k => (k : Int) | none => -1
theorem idxOf_at {zs : List Int} {x : Int} {k : Nat} (hk : k < zs.length) (h : nth zs k = x) (hp : ∀ j, j < k → nth zs j ≠ x) : idxOf zs x = k := by
  have e : zs.findIdx? (· == x) = some k := by
    rw [List.findIdx?_eq_some_iff_getElem]
    refine ⟨hk, by rw [nth_eq hk] at h; simp [h], fun j hj => ?_⟩
    have := hp j hj
    rw [nth_eq (by omega)] at this
    simpa using this
  rw [idxOf, e]
theorem idxOf_none {zs : List Int} {x : Int} (hp : ∀ j, j < zs.length → nth zs j ≠ x) : idxOf zs x = -1 := by
  have e : zs.findIdx? (· == x) = none := by
    rw [List.findIdx?_eq_none_iff]
    intro y hy
    obtain ⟨j, hj, rfl⟩ := List.getElem_of_mem hy
    have := hp j hj
    rw [nth_eq hj] at this
    simpa using this
  rw [idxOf, e]
theorem idxOf_ge {zs : List Int} {x : Int} : decide (0 ≤ idxOf zs x) = hasI zs x := by
  unfold hasI
  by_cases h : x ∈ zs
  · have : zs.findIdx? (· == x) ≠ none := by
      intro e
      rw [List.findIdx?_eq_none_iff] at e
      simpa using e x h
    obtain ⟨k, hk⟩ := Option.ne_none_iff_exists'.1 this
    rw [idxOf, hk]
    simp [h]
  · have : zs.findIdx? (· == x) = none := by
      rw [List.findIdx?_eq_none_iff]
      intro y hy
      simp
      rintro rfl
      exact h hy
    rw [idxOf, this]
    simp [h]

/-- The marks k, k+1, .. . -/
def marks (k : Int) (n : Nat) : List Int := (List.range n).map fun (i : Nat) => k + (i : Int)
theorem marks_len (k : Int) (n : Nat) : (marks k n).length = n := by simp [marks]
theorem marks_get (k : Int) (n i : Nat) (h : i < n) : nth (marks k n) i = k + i := by simp [nth, marks, h]

end Go.Proofs.YtjelmidkkpchkaaGreatDoor
end

section
namespace Go.Proofs.YtjelmidkkpchkaaGreatDoor
open Go.RowKit

/-- All that was there in w is there in w', unchanged. -/
def Ext (w w' : World) : Prop := Below w.heap.size w w'

theorem Ext.refl (w : World) : Ext w w := Below.refl _ _
theorem Ext.trans {a b c : World} (h : Ext a b) (k : Ext b c) : Ext a c := Below.trans h (Below.mono k h.size)
theorem Ext.size {a b : World} (h : Ext a b) : a.heap.size ≤ b.heap.size := Below.size h
theorem Ext.drew {a b : World} (h : Ext a b) : Ext a b.drew := Below.drew h
theorem Ext.alloc {a b : World} (h : Ext a b) (o : Obj) : Ext a (b.alloc o) := Below.alloc h h.size o
theorem Ext.setCell {a b : World} (h : Ext a b) {p : Addr} (hp : a.heap.size ≤ p.block) (u : Value) : Ext a (b.setCell p u) := Below.setCell h hp u
theorem Ext.grown {a b c : World} {row : Option Nat} (h : Ext a b) (hg : b.grownBy c row) (hr : ∀ k, row = some k → a.heap.size ≤ k) : Ext a c := Below.grown h hg h.size hr
theorem Ext.grown0 {a b c : World} (h : Ext a b) (hg : b.grownBy c none) : Ext a c := h.grown hg (by simp)
theorem Ext.wrote {a b c : World} {g : Nat} (h : Ext a b) (hg : b.grownBy c (some g)) (hr : a.heap.size ≤ g) : Ext a c := h.grown hg (by intro k e; cases e; exact hr)

/-- Neither blocks nor anything else has turned; at most some answers have been drawn. -/
def Still (w w' : World) : Prop := w'.heap = w.heap ∧ w'.tape = w.tape ∧ w'.os = w.os ∧ w'.output = w.output
theorem Still.refl (w : World) : Still w w := ⟨rfl, rfl, rfl, rfl⟩
theorem Still.drew {a b : World} (h : Still a b) : Still a b.drew := h
theorem Still.drewN {a b : World} (h : Still a b) (n : Nat) : Still a (b.drewN n) := h
theorem Still.trans {a b c : World} (h : Still a b) (k : Still b c) : Still a c := ⟨k.1.trans h.1, k.2.1.trans h.2.1, k.2.2.1.trans h.2.2.1, k.2.2.2.trans h.2.2.2⟩
theorem Still.ext {a b : World} (h : Still a b) : Ext a b := ⟨h.2.2.1, h.2.1, h.2.2.2, by rw [h.1]; exact Nat.le_refl _, fun _ _ => by rw [h.1]⟩

/-- The cells xs lie, in w, from a slice's address on. -/
def Rd (w : World) (a : Option Addr) (xs : List Value) : Prop :=
  xs = [] ∨ ∃ b o, a = some ⟨b, o, none⟩ ∧ b < w.heap.size ∧ ∀ j u, xs[j]? = some u → w.cell? ⟨b, o + j, none⟩ = some u

theorem Rd.nil (w : World) (a : Option Addr) : Rd w a [] := .inl rfl

theorem Rd.pos {w : World} {a : Option Addr} {xs : List Value} (h : Rd w a xs) (hn : 0 < xs.length) : ∃ b o, a = some ⟨b, o, none⟩ ∧ b < w.heap.size ∧ ∀ j u, xs[j]? = some u → w.cell? ⟨b, o + j, none⟩ = some u := by
  rcases h with rfl | h
  · simp at hn
  · exact h

theorem Rd.ext {w w' : World} {a : Option Addr} {xs : List Value} (h : Rd w a xs) (hb : Ext w w') : Rd w' a xs := by
  rcases h with rfl | ⟨b, o, rfl, hlt, hc⟩
  · exact .inl rfl
  · exact .inr ⟨b, o, rfl, Nat.lt_of_lt_of_le hlt hb.size, fun j u hu => by rw [Below.cell hb (p := ⟨b, o + j, none⟩) hlt]; exact hc j u hu⟩

theorem Rd.cells {w : World} {a : Option Addr} {xs : List Value} (h : Rd w a xs) : ∀ ad, a = some ad → ∀ j u, xs[j]? = some u → w.cell? (ad.add j) = some u := by
  rcases h with rfl | ⟨b, o, rfl, _, hc⟩
  · simp
  · intro ad e j u hu
    cases e
    rw [Addr.add_lit]
    exact hc j u hu

/-- A slice of n ints reads as zs. -/
def RdI (w : World) (a : Option Addr) (n : Nat) (zs : List Int) : Prop := zs.length = n ∧ n ≤ 4294967296 ∧ Rd w a (zs.map (Value.int .i64))

theorem RdI.ext {w w' : World} {a : Option Addr} {n : Nat} {zs : List Int} (h : RdI w a n zs) (hb : Ext w w') : RdI w' a n zs := ⟨h.1, h.2.1, h.2.2.ext hb⟩
theorem RdI.nil (w : World) (a : Option Addr) : RdI w a 0 [] := ⟨rfl, by decide, .inl rfl⟩
theorem RdI.len {w : World} {a : Option Addr} {n : Nat} {zs : List Int} (h : RdI w a n zs) : zs.length = n := h.1
theorem RdI.le {w : World} {a : Option Addr} {n : Nat} {zs : List Int} (h : RdI w a n zs) : n ≤ 4294967296 := h.2.1

/-- One element of such a slice. -/
theorem RdI.at {w : World} {a : Option Addr} {n : Nat} {zs : List Int} (h : RdI w a n zs) (hn : 0 < n) : ∃ b o, a = some ⟨b, o, none⟩ ∧ b < w.heap.size ∧ ∀ k, k < n → w.cell? ⟨b, o + k, none⟩ = some (.int .i64 (nth zs k)) := by
  obtain ⟨b, o, ha, hb, hc⟩ := h.2.2.pos (by rw [List.length_map, h.1]; exact hn)
  exact ⟨b, o, ha, hb, fun k hk => hc k _ (by have := h.1; simp [nth, show k < zs.length by omega])⟩

/-- What the call itself made: a slice of n ints in a block from number B on. -/
def OwnI (w : World) (B : Nat) (a : Option Addr) (n c : Nat) (zs : List Int) : Prop := w.ownsRow B 2 1 (.slice a n c) n (zs.map (Value.int .i64)) ∧ n ≤ 4294967296

theorem own_addr {w : World} {B e sz n m c : Nat} {a : Option Addr} {xs : List Value} (h : w.ownsRow B e sz (.slice a n c) m xs) : a = none ∨ ∃ g, a = some ⟨g, 0, none⟩ := by
  rcases h.2 with ⟨h', _⟩ | ⟨g, cap, cur, h', _⟩
  · simp at h'; exact .inl h'.1
  · simp at h'; exact .inr ⟨g, h'.1⟩

theorem own_slice {w : World} {B e sz n : Nat} {v : Value} {xs : List Value} (h : w.ownsRow B e sz v n xs) : ∃ a c, v = .slice a n c := by
  rcases h.2 with ⟨rfl, rfl⟩ | ⟨g, cap, cur, rfl, _⟩
  · exact ⟨none, 0, rfl⟩
  · exact ⟨_, cap, rfl⟩

theorem own_rd {w : World} {B e sz n c : Nat} {a : Option Addr} {xs : List Value} (h : w.ownsRow B e sz (.slice a n c) n xs) : Rd w a xs := by
  rcases own_addr h with rfl | ⟨g, rfl⟩
  · rcases h.2 with ⟨_, rfl⟩ | ⟨g, cap, cur, h', _⟩
    · exact .inl (List.eq_nil_of_length_eq_zero (by simpa using h.1))
    · simp at h'
  · have hl := h.1
    by_cases h0 : n * sz = 0
    · exact .inl (List.eq_nil_of_length_eq_zero (by omega))
    · refine .inr ⟨g, 0, rfl, (h.lt g rfl).2, fun j u hu => ?_⟩
      have hj : j < n * sz := by rw [← hl]; exact (List.getElem?_eq_some_iff.1 hu).1
      rw [Nat.zero_add, h.cellAt j hj, hu]

theorem OwnI.rd {w : World} {B n c : Nat} {a : Option Addr} {zs : List Int} (h : OwnI w B a n c zs) : RdI w a n zs :=
  ⟨by simpa using h.1.1, h.2, own_rd h.1⟩

theorem own_ext {w w' : World} {B e sz n : Nat} {v : Value} {xs : List Value} (h : w.ownsRow B e sz v n xs) (hb : Ext w w') : w'.ownsRow B e sz v n xs := by
  refine ⟨h.1, ?_⟩
  rcases h.2 with hn | ⟨g, cap, cur, rfl, hbg, hgg, rest⟩
  · exact .inl hn
  · refine .inr ⟨g, cap, cur, rfl, hbg, ?_, rest⟩
    rw [hb.block g (Array.getElem?_eq_some_iff.1 hgg).1]
    exact hgg
theorem own_mono {w : World} {B B' e sz n : Nat} {v : Value} {xs : List Value} (h : w.ownsRow B e sz v n xs) (hb : B' ≤ B) : w.ownsRow B' e sz v n xs := by
  refine ⟨h.1, ?_⟩
  rcases h.2 with hn | ⟨g, cap, cur, rfl, hbg, rest⟩
  · exact .inl hn
  · exact .inr ⟨g, cap, cur, rfl, Nat.le_trans hb hbg, rest⟩

theorem OwnI.ext {w w' : World} {B n c : Nat} {a : Option Addr} {zs : List Int} (h : OwnI w B a n c zs) (hb : Ext w w') : OwnI w' B a n c zs := ⟨own_ext h.1 hb, h.2⟩
theorem OwnI.mono {w : World} {B B' n c : Nat} {a : Option Addr} {zs : List Int} (h : OwnI w B a n c zs) (hb : B' ≤ B) : OwnI w B' a n c zs := ⟨own_mono h.1 hb, h.2⟩

theorem own_old {w : World} {B e g n c : Nat} {xs : List Value} (h : w.ownsRow B e 1 (.slice (some ⟨g, 0, none⟩) n c) n xs) (j : Nat) (hj : j < n) : ∃ u, w.cell? ⟨g, j, none⟩ = some u := by
  have hc := h.cellAt j (by omega)
  have hl := h.1
  exact ⟨_, hc.trans (List.getElem?_eq_getElem (by omega))⟩

/-- What a call that hands back a slice of ints in new memory leaves. -/
def NewI (w w' : World) (zs : List Int) (v : Value) : Prop := ∃ a n c, v = .slice a n c ∧ OwnI w' w.heap.size a n c zs ∧ Ext w w'

theorem Tryz.info_i64 : (Tryz.prog.info? 2).map (fun i => (i.zero, i.size, i.bytes)) = some (some (.int .i64 0), 1, 8) := by kernel_rfl

/-- append of what another slice holds, nil or not. -/
theorem wpList_append_row {P : Program} {w : World} {ops : Array Oper} {rest : List Oper} {o : Oper} {a : Act} {Q : Exit → Act → World → Prop} (hgd : o.guard = none) (s x : Operand) (t : TypeId)
    (ho : o.op = .call { callee := .builtin .append, args := #[s, x], argTypes := #[t, t] })
    (base : Nat) (e : TypeId) (i : TypeInfo) (z : Value) (size bytes : Nat) (ht : P.underlying t = some (.slice e)) (hi : P.info? e = some i) (hz : i.zero = some z)
    (hsize : i.size = size) (hby : i.bytes = bytes) (hzs : z.cells.size = size) (hsz : 0 < size)
    (v : Value) (n : Nat) (xs : List Value) (hs : a.eval s = v) (hown : w.ownsRow base e size v n xs)
    (ad : Option Addr) (m c : Nat) (news : List Value) (hx : a.eval x = .slice ad m c) (hl : news.length = m * size) (hrd : Rd w ad news) (h1 : ∀ u ∈ news, u.oneCell' = true)
    (h63 : n + m ≤ maxLen) (hbytes : (n + m) * bytes ≤ 140737488355328) (hbase : base ≤ w.heap.size)
    (h : ∀ v' w', w'.ownsRow base e size v' (n + m) (xs ++ news) → w.grownBy w' v.ownBlock → (v' = .slice none 0 0 ↔ v = .slice none 0 0 ∧ m = 0) → wpList P ops Q rest (a.put o.dst v') w') : wpList P ops Q (o :: rest) a w := by
  cases ad with
  | some ad => exact wpList_append_own w hgd s x t ho base e i z size bytes ht hi hz hsize hby hzs hsz v n xs hs hown ad m c news hx hl (hrd.cells ad rfl) h1 h63 hbytes hbase h
  | none =>
    have hnews : news = [] := by
      rcases hrd with h | ⟨b, o, h, _⟩
      · exact h
      · cases h
    subst hnews
    have hm : m = 0 := by
      have : m * size = 0 := by simpa using hl.symm
      rcases Nat.mul_eq_zero.1 this with h | h
      · exact h
      · omega
    subst hm
    refine wpList_plain hgd fun K hK => ?_
    have hrun : (Builtin.append_ #[t, t] o.type #[v, .slice none 0 c]).run P w = .ok v w := by
      rcases hown.2 with ⟨rfl, rfl⟩ | ⟨g, cap, cur, rfl, _, _, hnc, _⟩
      · simp [Builtin.append_, run_underlying ht, sizeOf, typeInfo, hi, Builtin.lenOf, Builtin.firstCells]
      · simp [Builtin.append_, run_underlying ht, sizeOf, typeInfo, hi, Builtin.lenOf, Builtin.firstCells, hnc, storeCells]
    unfold Oper.wp
    simp [execOp, ho, resolve, invoke, builtin, hs, hx, hrun, Result.andThen]
    exact hK _ _ (h v w (by simpa using hown) (World.grownBy.refl _ _) (by simp))

theorem ret_int {k : IntKind} {a b : Int} (h : a = b) : Ending.returned (.int k a) = .returned (.int k b) := by rw [h]
theorem ret_bool {a b : Bool} (h : a = b) : Ending.returned (.bool a) = .returned (.bool b) := by rw [h]
theorem ret_str {a b : List UInt8} (h : a = b) : Ending.returned (.string ⟨a.toArray⟩) = .returned (.string ⟨b.toArray⟩) := by rw [h]

/-- append of one element: the value and its one-cell block. -/
theorem cell_new1 (w : World) (u : Value) (e : TypeId) : ∀ j x, ([u] : List Value)[j]? = some x → (w.alloc (.cells #[u] e)).cell? ((⟨w.heap.size, 0, none⟩ : Addr).add j) = some x := by
  intro j x hx
  cases j with
  | zero => simp at hx; subst hx; simp [Addr.add, World.cell?_alloc_at]
  | succ j => simp at hx

theorem RdI.new1 (w : World) (x : Int) (e : TypeId) : RdI (w.alloc (.cells #[.int .i64 x] e)) (some ⟨w.heap.size, 0, none⟩) 1 [x] :=
  ⟨rfl, by decide, .inr ⟨_, _, rfl, by simp, fun j u hu => by
    have := cell_new1 w (.int .i64 x) e j u hu
    rw [Addr.add_lit] at this
    exact this⟩⟩

theorem RdI.isNone {w : World} {n : Nat} {zs : List Int} (h : RdI w none n zs) : n = 0 ∧ zs = [] := by
  have hz : zs = [] := by
    rcases h.2.2 with h | ⟨b, o, h, _⟩
    · simpa using h
    · cases h
  subst hz
  exact ⟨h.1.symm, rfl⟩

/-- append(s, x...) at []int64: s is the call's own, x any slice. -/
theorem wpList_appI {w : World} {ops : Array Oper} {rest : List Oper} {o : Oper} {a : Act} {Q : Exit → Act → World → Prop} (hgd : o.guard = none) (s x : Operand)
    (ho : o.op = .call { callee := .builtin .append, args := #[s, x], argTypes := #[30, 30] })
    (B : Nat) (v : Value) (n : Nat) (xs : List Int) (hs : a.eval s = v) (hown : w.ownsRow B 2 1 v n (xs.map (Value.int .i64)))
    (ad : Option Addr) (m c : Nat) (ys : List Int) (hx : a.eval x = .slice ad m c) (hr : RdI w ad m ys) (hsum : n + m ≤ 4294967296) (hB : B ≤ w.heap.size)
    (h : ∀ a' c' w', OwnI w' B a' (n + m) c' (xs ++ ys) → w.grownBy w' v.ownBlock → wpList Tryz.prog ops Q rest (a.put o.dst (.slice a' (n + m) c')) w') : wpList Tryz.prog ops Q (o :: rest) a w := by
  obtain ⟨i, hi, hz0, hz1, hz2⟩ := info_parts Tryz.info_i64
  refine wpList_append_row hgd s x 30 ho B 2 i (.int .i64 0) 1 8 Tryz.underlying30 hi hz0 hz1 hz2 rfl (by decide) v n _ hs hown ad m c (ys.map (Value.int .i64)) hx (by simpa using hr.len) hr.2.2 ?_ ?_ ?_ hB ?_
  · intro u hu
    obtain ⟨_, _, rfl⟩ := List.mem_map.1 hu
    rfl
  · unfold maxLen; omega
  · omega
  · intro v' w' h1 h2 _
    obtain ⟨a', c', rfl⟩ := own_slice h1
    exact h a' c' w' ⟨by simpa using h1, hsum⟩ h2

/-- []int64 made out of nothing, or of given elements. -/
theorem OwnI.lit0 (w : World) {B : Nat} (hB : B ≤ w.heap.size) : (w.alloc (.cells #[] 2)).ownsRow B 2 1 (.slice (some ⟨w.heap.size, 0, none⟩) 0 0) 0 (([] : List Int).map (Value.int .i64)) := by
  simpa using World.ownsRow_lit w #[] 0 hB (Nat.zero_le _) rfl
theorem OwnI.lit1 (w : World) (x : Int) {B : Nat} (hB : B ≤ w.heap.size) : (w.alloc (.cells #[.int .i64 x] 2)).ownsRow B 2 1 (.slice (some ⟨w.heap.size, 0, none⟩) 1 1) 1 (([x] : List Int).map (Value.int .i64)) := by
  simpa using World.ownsRow_lit w #[.int .i64 x] 1 hB (by decide) rfl
theorem OwnI.isNil (w : World) (B : Nat) : w.ownsRow B 2 1 (.slice none 0 0) 0 (([] : List Int).map (Value.int .i64)) := by
  simpa using World.ownsRow_nil w B 2 1

/-- Behind an append of one element to what the call owns. -/
theorem Ext.app {w wr w2 : World} {o : Obj} {B n c : Nat} {a : Option Addr} {xs : List Int} (hb : Ext w wr) (ho : OwnI wr B a n c xs) (hB : w.heap.size ≤ B) (hg : (wr.alloc o).grownBy w2 (Value.slice a n c).ownBlock) : Ext w w2 :=
  (hb.alloc o).grown hg fun k e => Nat.le_trans hB (ho.1.lt k e).1
theorem OwnI.alloc {w : World} {B n c : Nat} {a : Option Addr} {xs : List Int} (ho : OwnI w B a n c xs) (o : Obj) : (w.alloc o).ownsRow B 2 1 (.slice a n c) n (xs.map (Value.int .i64)) := own_ext ho.1 ((Ext.refl _).alloc _)
theorem Ext.le_alloc {w wr : World} (hb : Ext w wr) (o : Obj) : w.heap.size ≤ (wr.alloc o).heap.size := (hb.alloc o).size

end Go.Proofs.YtjelmidkkpchkaaGreatDoor
end

section
namespace Go.Proofs.YtjelmidkkpchkaaGreatDoor
open Go.RowKit

theorem ints_take_set (zs : List Int) (k n : Nat) (hn : zs.length = n) (h : k < n) : ((zs.take k).map (Value.int .i64) ++ List.replicate (n - k) (Value.int .i64 0)).set k (Value.int .i64 (nth zs k)) = (zs.take (k + 1)).map (Value.int .i64) ++ List.replicate (n - (k + 1)) (Value.int .i64 0) := by
  subst hn
  have e : zs.length - k = (zs.length - (k + 1)) + 1 := by omega
  rw [e, List.replicate_succ]
  have hl : ((zs.take k).map (Value.int .i64)).length = k := by simp; omega
  rw [List.set_append_right _ _ (by omega), hl]
  have t := List.take_succ_eq_append_getElem h
  rw [t, List.map_append, nth_eq h, List.append_assoc, Nat.sub_self]
  rfl

theorem marks_set (zs : List Int) (k : Int) (n i : Nat) (hn : zs.length = n) (h : i < n) :
    (((marks k i) ++ zs.drop i).map (Value.int .i64)).set i (Value.int .i64 (k + i)) = ((marks k (i + 1)) ++ zs.drop (i + 1)).map (Value.int .i64) := by
  subst hn
  rw [List.drop_eq_getElem_cons h, ← List.map_set]
  have hl : (marks k i).length = i := marks_len k i
  rw [List.set_append_right _ _ (by omega), hl, Nat.sub_self, List.set_cons_zero]
  simp only [marks, List.range_succ, List.map_append, List.append_assoc, List.map_cons, List.map_nil, List.cons_append, List.nil_append]

/-- Of what was there the block that a leads to alone has turned; there may be new blocks. -/
structure Wrote (w w' : World) (a : Option Addr) : Prop where
  os : w'.os = w.os
  tape : w'.tape = w.tape
  output : w'.output = w.output
  size : w.heap.size ≤ w'.heap.size
  block : ∀ k, k < w.heap.size → (∀ g, a = some g → k ≠ g.block) → w'.heap[k]? = w.heap[k]?
theorem Wrote.refl (w : World) (a : Option Addr) : Wrote w w a := ⟨rfl, rfl, rfl, Nat.le_refl _, fun _ _ _ => rfl⟩
theorem Wrote.setCell {w w' : World} {b o : Nat} (h : Wrote w w' (some ⟨b, o, none⟩)) (j : Nat) (u : Value) : Wrote w (w'.setCell ⟨b, j, none⟩ u) (some ⟨b, o, none⟩) :=
  ⟨h.os, h.tape, h.output, by simpa [World.setCell] using h.size, fun k hlt hk => by rw [Below.heap_setCell _ ⟨b, j, none⟩ _ _ (hk ⟨b, o, none⟩ rfl)]; exact h.block k hlt hk⟩
theorem Wrote.more {w w1 w2 : World} {a : Option Addr} (h : Wrote w w1 a) (x : Ext w1 w2) : Wrote w w2 a :=
  ⟨x.os.trans h.os, x.tape.trans h.tape, x.output.trans h.output, Nat.le_trans h.size x.size, fun k hlt hk => (x.block k (Nat.lt_of_lt_of_le hlt h.size)).trans (h.block k hlt hk)⟩
theorem Wrote.trans {w w1 w2 : World} {a : Option Addr} (h : Wrote w w1 a) (k : Wrote w1 w2 a) : Wrote w w2 a :=
  ⟨k.os.trans h.os, k.tape.trans h.tape, k.output.trans h.output, Nat.le_trans h.size k.size, fun j hlt hj => (k.block j (Nat.lt_of_lt_of_le hlt h.size) hj).trans (h.block j hlt hj)⟩
/-- What was there before that block was made reads on. -/
theorem Wrote.ext {w0 w w' : World} {B e sz n c m : Nat} {a : Option Addr} {xs : List Value} (h : Wrote w w' a) (h0 : Ext w0 w) (ho : w.ownsRow B e sz (.slice a n c) m xs) (hB : w0.heap.size ≤ B) : Ext w0 w' :=
  Below.trans h0 ⟨h.os, h.tape, h.output, h.size, fun k hk => h.block k (Nat.lt_of_lt_of_le hk h0.size) fun g hg => by
    subst hg
    have := (ho.lt _ rfl).1
    omega⟩
/-- What was made behind that block stays owned. -/
theorem Wrote.kept {w w' : World} {B B' e e' sz sz' n n' c c' m m' : Nat} {a a' : Option Addr} {xs ys : List Value} (h : Wrote w w' a) (ho : w.ownsRow B' e' sz' (.slice a' n' c') m' ys)
    (hw : ∃ w1 : World, w1.ownsRow B e sz (.slice a n c) m xs ∧ w1.heap.size ≤ B') : w'.ownsRow B' e' sz' (.slice a' n' c') m' ys := by
  obtain ⟨w1, hw1, hs⟩ := hw
  refine ⟨ho.1, ?_⟩
  rcases ho.2 with hn | ⟨g, cap, cur, hv, hbg, hgg, rest⟩
  · exact .inl hn
  · refine .inr ⟨g, cap, cur, hv, hbg, ?_, rest⟩
    rw [h.block g (Array.getElem?_eq_some_iff.1 hgg).1 ?_]
    · exact hgg
    · rintro g' rfl
      have := (hw1.lt _ rfl).2
      omega
end Go.Proofs.YtjelmidkkpchkaaGreatDoor
end

section
namespace Go.Proofs.YtjelmidkkpchkaaGreatDoor
open Go.RowKit

theorem within_any (x lo hi : Int) (w : World) :
    Calls Tryz.prog 49 #[.int .i64 x, .int .i64 lo, .int .i64 hi] w fun e w' => e = .returned (.bool (inB x lo hi)) ∧ w = w' := by
  by_cases h1 : lo ≤ x <;> by_cases h2 : x ≤ hi
  all_goals
    go_enter Tryz.func49, Tryz.ntmps49
    go_wp2
    go_ret
    exact ⟨by simp [inB, *], rfl⟩

theorem l01In_any (x lo hi : Int) (w : World) :
    Calls Tryz.prog 55 #[.int .i64 x, .int .i64 lo, .int .i64 hi] w fun e w' => e = .returned (.bool (inB x lo hi)) ∧ w = w' := by
  by_cases h1 : lo ≤ x <;> by_cases h2 : x ≤ hi
  all_goals
    go_enter Tryz.func55, Tryz.ntmps55
    go_wp2
    go_ret
    exact ⟨by simp [inB, *], rfl⟩

theorem length_int64_any (a : Option Addr) (n c : Nat) (w : World) (_ : n ≤ 4294967296) :
    Calls Tryz.prog 50 #[.slice a n c] w fun e w' => e = .returned (.int .i64 n) ∧ w = w' := by
  go_enter Tryz.func50, Tryz.ntmps50
  go_wp2
  go_ret
  exact ⟨rfl, rfl⟩

set_option maxHeartbeats 400000 in
theorem areWithin_any (a : Option Addr) (n c : Nat) (lo hi : Int) (zs : List Int) (w : World) (hr : RdI w a n zs) :
    Calls Tryz.prog 130 #[.slice a n c, .int .i64 lo, .int .i64 hi] w fun e w' => e = .returned (.bool (allIn zs lo hi)) ∧ w = w' := by
  have hm := hr.le
  go_enter Tryz.func130, Tryz.ntmps130
  go_wp2
  go_loop [11] (fun i => ∃ k : Nat, k ≤ n ∧ i = .int .i64 k ∧ ∀ j, j < k → inB (nth zs j) lo hi = true) (fun i => n - (intOf i).toNat)
  case atStart => exact ⟨0, Nat.zero_le _, rfl, by simp⟩
  case round =>
    obtain ⟨k, hk, rfl, hall⟩ := hrel
    have HA := Lib.hid hall
    clear hall
    by_cases hlt : k < n
    · obtain ⟨b, o, rfl, hbl, hc⟩ := hr.at (by omega)
      have hck := hc k hlt
      clear hc
      cases h : inB (nth zs k) lo hi
      all_goals
        have HH := Lib.hid h
        clear h
        go_wp2_with (go_at_call 49; refine (within_any _ _ _ _).mono ?_; rintro e w' ⟨rfl, rfl⟩; rw [HH.out])
      · go_ret
        exact ⟨ret_bool (allIn_false (by rw [hr.len]; exact hlt) HH.out).symm, rfl⟩
      · go_round
        case rel =>
          refine ⟨k + 1, by omega, by go_num, fun j hj => ?_⟩
          by_cases e : j = k
          · rw [e, HH.out]
          · exact HA.out j (by omega)
        case measure => simp [intOf]; omega
    · obtain rfl : k = n := by omega
      go_wp2
      go_ret
      exact ⟨ret_bool (allIn_true (by rw [hr.len]; exact HA.out)).symm, rfl⟩

set_option maxHeartbeats 400000 in
theorem l01Has_any (a : Option Addr) (n c : Nat) (x : Int) (zs : List Int) (w : World) (hr : RdI w a n zs) :
    Calls Tryz.prog 57 #[.slice a n c, .int .i64 x] w fun e w' => e = .returned (.bool (hasI zs x)) ∧ w = w' := by
  have hm := hr.le
  go_enter Tryz.func57, Tryz.ntmps57
  go_wp2
  go_loop [5] (fun i => ∃ k : Nat, k ≤ n ∧ i = .int .i64 k ∧ ∀ j, j < k → nth zs j ≠ x) (fun i => n - (intOf i).toNat)
  case atStart => exact ⟨0, Nat.zero_le _, rfl, by simp⟩
  case round =>
    obtain ⟨k, hk, rfl, hall⟩ := hrel
    have HA := Lib.hid hall
    clear hall
    by_cases hlt : k < n
    · obtain ⟨b, o, rfl, hbl, hc⟩ := hr.at (by omega)
      have hck := hc k hlt
      clear hc
      by_cases h : nth zs k = x
      · have HH := Lib.hid h
        have hb : (nth zs k == x) = true := by simp [h]
        clear h
        go_wp2
        go_ret
        exact ⟨ret_bool (mem_nth (by rw [hr.len]; exact hlt) HH.out).symm, rfl⟩
      · have HH := Lib.hid h
        have hb : (nth zs k == x) = false := by simp [h]
        clear h
        go_wp2
        go_round
        case rel =>
          refine ⟨k + 1, by omega, by go_num, fun j hj => ?_⟩
          by_cases e : j = k
          · rw [e]; exact HH.out
          · exact HA.out j (by omega)
        case measure => simp [intOf]; omega
    · obtain rfl : k = n := by omega
      go_wp2
      go_ret
      exact ⟨ret_bool (not_mem_nth (by rw [hr.len]; exact HA.out)).symm, rfl⟩

set_option maxHeartbeats 400000 in
theorem slIndex_int64_any (a : Option Addr) (n c : Nat) (x : Int) (zs : List Int) (w : World) (hr : RdI w a n zs) :
    Calls Tryz.prog 142 #[.slice a n c, .int .i64 x] w fun e w' => e = .returned (.int .i64 (idxOf zs x)) ∧ w = w' := by
  have hm := hr.le
  go_enter Tryz.func142, Tryz.ntmps142
  go_wp2
  go_loop [8] (fun i => ∃ k : Nat, k ≤ n ∧ i = .int .i64 k ∧ ∀ j, j < k → nth zs j ≠ x) (fun i => n - (intOf i).toNat)
  case atStart => exact ⟨0, Nat.zero_le _, rfl, by simp⟩
  case round =>
    obtain ⟨k, hk, rfl, hall⟩ := hrel
    have HA := Lib.hid hall
    clear hall
    by_cases hlt : k < n
    · obtain ⟨b, o, rfl, hbl, hc⟩ := hr.at (by omega)
      have hck := hc k hlt
      clear hc
      by_cases h : nth zs k = x
      · have HH := Lib.hid h
        have hb : (x == nth zs k) = true := by simp [h]
        clear h
        go_wp2
        go_ret
        exact ⟨ret_int (idxOf_at (by rw [hr.len]; exact hlt) HH.out HA.out).symm, rfl⟩
      · have HH := Lib.hid h
        have hb : (x == nth zs k) = false := by rw [beq_eq_false_iff_ne]; exact fun e => h e.symm
        clear h
        go_wp2
        go_round
        case rel =>
          refine ⟨k + 1, by omega, by go_num, fun j hj => ?_⟩
          by_cases e : j = k
          · rw [e]; exact HH.out
          · exact HA.out j (by omega)
        case measure => simp [intOf]; omega
    · obtain rfl : k = n := by omega
      go_wp2
      go_ret
      exact ⟨ret_int (idxOf_none (by rw [hr.len]; exact HA.out)).symm, rfl⟩

theorem slContains_int64_any (a : Option Addr) (n c : Nat) (x : Int) (zs : List Int) (w : World) (hr : RdI w a n zs) :
    Calls Tryz.prog 102 #[.slice a n c, .int .i64 x] w fun e w' => e = .returned (.bool (hasI zs x)) ∧ w = w' := by
  go_enter Tryz.func102, Tryz.ntmps102
  go_wp2_with (go_at_call 142; refine (slIndex_int64_any _ _ _ _ _ _ hr).mono ?_; rintro e w' ⟨rfl, rfl⟩)
  go_ret
  exact ⟨ret_bool idxOf_ge, rfl⟩

theorem slClone_int64_any (a : Option Addr) (n c : Nat) (zs : List Int) (w : World) (hr : RdI w a n zs) :
    Calls Tryz.prog 161 #[.slice a n c] w fun e w' => ∃ v, e = .returned v ∧ NewI w w' zs v := by
  have hm := hr.le
  have hq := fun (w : World) (a : Option Addr) (n c : Nat) => Lib.run_eql_slice_nil (P := Tryz.prog) w 30 2 a n c 0 0 Tryz.underlying30
  cases a with
  | none =>
    go_enter Tryz.func161, Tryz.ntmps161
    go_wp2
    go_ret
    obtain ⟨_, rfl⟩ := hr.isNone
    exact ⟨_, rfl, none, 0, 0, rfl, ⟨OwnI.isNil _ _, by decide⟩, Ext.refl _⟩
  | some ad =>
    go_enter Tryz.func161, Tryz.ntmps161
    go_wp2_with (first | (at_builtin; refine wpList_appI rfl _ _ rfl w.heap.size _ 0 [] rfl (OwnI.lit0 w (Nat.le_refl _)) _ _ _ zs rfl (hr.ext ((Ext.refl _).alloc _)) (by omega) (by simp) ?_; intro a' c' w1 hown hgrow; simp only [Nat.zero_add] at hown ⊢))
    go_ret
    exact ⟨_, rfl, _, _, _, rfl, hown, ((Ext.refl _).alloc _).wrote hgrow (Nat.le_refl _)⟩

end Go.Proofs.YtjelmidkkpchkaaGreatDoor
end

section
namespace Go.Proofs.YtjelmidkkpchkaaGreatDoor

/-- The pieces between the bytes c. -/
def splitL (c : UInt8) : List UInt8 → List (List UInt8)
  | [] => [[]]
  | b :: l => if b == c then [] :: splitL c l else match splitL c l with
    | [] => [[b]]
    | p :: ps => (b :: p) :: ps
theorem splitL_miss {c : UInt8} : ∀ {l : List UInt8}, (∀ x ∈ l, x ≠ c) → splitL c l = [l]
  | [], _ => rfl
  | b :: l, h => by
    have hb : (b == c) = false := by rw [beq_eq_false_iff_ne]; exact h b (by simp)
    rw [splitL, hb, splitL_miss (fun x hx => h x (by simp [hx]))]
    rfl
theorem splitL_hit {c : UInt8} : ∀ {l : List UInt8} {k : Nat}, l[k]? = some c → (∀ j x, j < k → l[j]? = some x → x ≠ c) → splitL c l = l.take k :: splitL c (l.drop (k + 1))
  | [], k, h, _ => by simp at h
  | b :: l, 0, h, _ => by
    obtain rfl : b = c := by simpa using h
    simp [splitL]
  | b :: l, k + 1, h, hp => by
    have hb : (b == c) = false := by rw [beq_eq_false_iff_ne]; exact hp 0 b (by omega) rfl
    have ih := splitL_hit (l := l) (k := k) (by simpa using h) (fun j x hj hx => hp (j + 1) x (by omega) (by simpa using hx))
    rw [splitL, hb, ih]
    simp
theorem index_one (c : UInt8) : ∀ l : List UInt8, Lib.index l [c] = match l.findIdx? (· == c) with | some k => (k : Int) | none => -1
  | [] => rfl
  | b :: l => by
    rw [Lib.index, index_one c l, List.findIdx?_cons]
    have e : [c].isPrefixOf (b :: l) = (b == c) := by
      rw [List.isPrefixOf_cons_cons, List.isPrefixOf_nil_left, Bool.and_true, Bool.beq_comm]
    rw [e]
    cases hb : b == c
    · cases h : l.findIdx? (· == c) with
      | none => simp
      | some k => simp
    · simp
theorem index_one_some {c : UInt8} {l : List UInt8} {k : Nat} (h : l.findIdx? (· == c) = some k) : l[k]? = some c ∧ ∀ j x, j < k → l[j]? = some x → x ≠ c := by
  obtain ⟨hk, he, hp⟩ := List.findIdx?_eq_some_iff_getElem.1 h
  refine ⟨?_, fun j x hj hx => ?_⟩
  · rw [List.getElem?_eq_getElem hk]; simpa using he
  · have := hp j hj
    rw [List.getElem?_eq_getElem (by omega)] at hx
    cases hx
    simpa using this
theorem splitK_one (c : UInt8) : ∀ (n : Nat) (l : List UInt8), l.length ≤ n → Lib.splitK [c] 0 (Lib.count l [c]) l = splitL c l ∧ (splitL c l).length = Lib.count l [c] + 1 := by
  intro n
  induction n with
  | zero =>
    intro l hl
    obtain rfl : l = [] := List.eq_nil_of_length_eq_zero (by omega)
    exact ⟨rfl, rfl⟩
  | succ n ih =>
    intro l hl
    have hi := index_one c l
    cases h : l.findIdx? (· == c) with
    | none =>
      rw [h] at hi
      have hm := Lib.count_miss hi
      rw [hm, splitL_miss (fun x hx => by have := List.findIdx?_eq_none_iff.1 h x hx; simpa using this)]
      exact ⟨rfl, rfl⟩
    | some k =>
      rw [h] at hi
      simp only at hi
      obtain ⟨h1, h2⟩ := index_one_some h
      have hk : k < l.length := (List.getElem?_eq_some_iff.1 h1).1
      have hc := Lib.count_hit (by simp) hi
      have := ih (l.drop (k + 1)) (by simp; omega)
      simp only [List.length_singleton] at hc
      rw [hc, splitL_hit h1 h2, List.length_cons, this.2]
      refine ⟨?_, by omega⟩
      rw [Nat.add_comm, Lib.splitK, if_neg (by rw [hi]; simp), hi]
      simp only [Int.toNat_natCast, Nat.add_zero, List.length_singleton]
      rw [this.1]

theorem splitL_len {c : UInt8} : ∀ {l : List UInt8}, ∀ p ∈ splitL c l, p.length ≤ l.length
  | [], p, h => by simp [splitL] at h; subst h; simp
  | b :: l, p, h => by
    rw [splitL] at h
    cases hb : b == c
    · rw [hb] at h
      simp only [Bool.false_eq_true, if_false] at h
      cases hs : splitL c l with
      | nil => rw [hs] at h; simp at h; subst h; simp
      | cons q qs =>
        rw [hs] at h
        rcases List.mem_cons.1 h with rfl | h
        · have := splitL_len (c := c) (l := l) q (by rw [hs]; simp)
          simp; omega
        · have := splitL_len (c := c) (l := l) p (by rw [hs]; simp [h])
          simp; omega
    · rw [hb] at h
      simp only [if_true] at h
      rcases List.mem_cons.1 h with rfl | h
      · simp
      · have := splitL_len (c := c) (l := l) p h
        simp; omega
theorem splitL_num {c : UInt8} : ∀ {l : List UInt8}, (splitL c l).length ≤ l.length + 1
  | [] => by simp [splitL]
  | b :: l => by
    have := splitL_num (c := c) (l := l)
    rw [splitL]
    split
    · simp; omega
    · cases hs : splitL c l with
      | nil => simp
      | cons q qs => rw [hs] at this; simp at this ⊢; omega
/-- The pieces of a text between the bytes c. -/
def splitC (c : UInt8) (s : ByteArray) : List ByteArray := (splitL c s.data.toList).map fun l => ⟨l.toArray⟩
theorem splitC_small {c : UInt8} {s : ByteArray} : ∀ p ∈ splitC c s, p.size ≤ s.size := by
  intro p hp
  obtain ⟨l, hl, rfl⟩ := List.mem_map.1 hp
  have := splitL_len l hl
  show l.toArray.size ≤ s.data.size
  simpa using this
theorem splitC_num {c : UInt8} {s : ByteArray} : (splitC c s).length ≤ s.size + 1 := by
  have := splitL_num (c := c) (l := s.data.toList)
  rw [splitC, List.length_map]
  show _ ≤ s.data.size + 1
  simpa using this
theorem splitB_one (c : UInt8) (s : ByteArray) : Lib.splitB ⟨#[c]⟩ 0 (Lib.countB s ⟨#[c]⟩) s = splitC c s ∧ (splitC c s).length = Lib.countB s ⟨#[c]⟩ + 1 := by
  have h1 := splitK_one c _ s.data.toList (Nat.le_refl _)
  have h2 := Lib.splitB_data ⟨#[c]⟩ 0 (Lib.countB s ⟨#[c]⟩) s
  have e : Lib.countB s ⟨#[c]⟩ = Lib.count s.data.toList [c] := rfl
  refine ⟨?_, by rw [splitC, List.length_map, h1.2, e]⟩
  have h3 := congrArg (List.map fun l : List UInt8 => (⟨l.toArray⟩ : ByteArray)) h2
  rw [List.map_map] at h3
  have hid : ((fun l : List UInt8 => (⟨l.toArray⟩ : ByteArray)) ∘ fun x : ByteArray => x.data.toList) = id := by funext x; rfl
  rw [hid, List.map_id] at h3
  rw [h3, e, splitC, ← h1.1]
end Go.Proofs.YtjelmidkkpchkaaGreatDoor
end

section
namespace Go.Proofs.YtjelmidkkpchkaaGreatDoor
open Go.RowKit

/-- How an element lies in cells: 'sz' of them. -/
structure Lay (α : Type) where
  cells : α → List Value
  sz : Nat
  len : ∀ x, (cells x).length = sz
  one : ∀ x, ∀ u ∈ cells x, u.oneCell' = true
  pos : 0 < sz

theorem flat_len {α : Type} (L : Lay α) (xs : List α) : (xs.flatMap L.cells).length = xs.length * L.sz := by
  induction xs with
  | nil => simp
  | cons x xs ih => rw [List.flatMap_cons, List.length_append, ih, L.len, List.length_cons, Nat.succ_mul, Nat.add_comm]
theorem flat_one {α : Type} (L : Lay α) (xs : List α) : ∀ u ∈ xs.flatMap L.cells, u.oneCell' = true := by
  intro u hu
  obtain ⟨x, _, hx⟩ := List.mem_flatMap.1 hu
  exact L.one x u hx
theorem flat_get {α : Type} (L : Lay α) (xs : List α) (k j : Nat) (x : α) (hk : xs[k]? = some x) (hj : j < L.sz) : (xs.flatMap L.cells)[k * L.sz + j]? = (L.cells x)[j]? := by
  induction xs generalizing k with
  | nil => simp at hk
  | cons y ys ih =>
    cases k with
    | zero =>
      simp at hk; subst hk
      rw [List.flatMap_cons, Nat.zero_mul, Nat.zero_add, List.getElem?_append_left (by rw [L.len]; exact hj)]
    | succ k =>
      rw [List.flatMap_cons, List.getElem?_append_right (by rw [L.len, Nat.succ_mul]; omega), L.len]
      rw [show (k + 1) * L.sz + j - L.sz = k * L.sz + j by rw [Nat.succ_mul]; omega]
      exact ih k (by simpa using hk)

/-- A slice of n elements reads as xs. -/
def RdG {α : Type} (L : Lay α) (w : World) (a : Option Addr) (n : Nat) (xs : List α) : Prop := xs.length = n ∧ n ≤ 4294967296 ∧ Rd w a (xs.flatMap L.cells)
theorem RdG.ext {α : Type} {L : Lay α} {w w' : World} {a : Option Addr} {n : Nat} {xs : List α} (h : RdG L w a n xs) (hb : Ext w w') : RdG L w' a n xs := ⟨h.1, h.2.1, h.2.2.ext hb⟩
theorem RdG.nil {α : Type} (L : Lay α) (w : World) (a : Option Addr) : RdG L w a 0 [] := ⟨rfl, by decide, .inl rfl⟩
theorem RdG.len {α : Type} {L : Lay α} {w : World} {a : Option Addr} {n : Nat} {xs : List α} (h : RdG L w a n xs) : xs.length = n := h.1
theorem RdG.le {α : Type} {L : Lay α} {w : World} {a : Option Addr} {n : Nat} {xs : List α} (h : RdG L w a n xs) : n ≤ 4294967296 := h.2.1
theorem RdG.isNone {α : Type} {L : Lay α} {w : World} {n : Nat} {xs : List α} (h : RdG L w none n xs) : n = 0 ∧ xs = [] := by
  have hz : xs = [] := by
    rcases h.2.2 with h' | ⟨b, o, h', _⟩
    · have := flat_len L xs
      rw [h'] at this
      simp only [List.length_nil] at this
      rcases Nat.mul_eq_zero.1 this.symm with h2 | h2
      · exact List.eq_nil_of_length_eq_zero h2
      · have := L.pos; omega
    · cases h'
  subst hz
  exact ⟨h.1.symm, rfl⟩
/-- The cells of its elements. -/
theorem RdG.at {α : Type} {L : Lay α} {w : World} {a : Option Addr} {n : Nat} {xs : List α} (h : RdG L w a n xs) (hn : 0 < n) :
    ∃ b o, a = some ⟨b, o, none⟩ ∧ b < w.heap.size ∧ ∀ k x, xs[k]? = some x → ∀ j u, (L.cells x)[j]? = some u → w.cell? ⟨b, o + (k * L.sz + j), none⟩ = some u := by
  obtain ⟨b, o, ha, hb, hc⟩ := h.2.2.pos (by rw [flat_len, h.1]; exact Nat.mul_pos hn L.pos)
  refine ⟨b, o, ha, hb, fun k x hk j u hu => hc _ u ?_⟩
  rw [flat_get L xs k j x hk (by rw [← L.len x]; exact (List.getElem?_eq_some_iff.1 hu).1)]
  exact hu

/-- What the call itself made. -/
def OwnG {α : Type} (L : Lay α) (e : TypeId) (w : World) (B : Nat) (a : Option Addr) (n c : Nat) (xs : List α) : Prop := w.ownsRow B e L.sz (.slice a n c) n (xs.flatMap L.cells) ∧ n ≤ 4294967296
theorem OwnG.rd {α : Type} {L : Lay α} {e : TypeId} {w : World} {B n c : Nat} {a : Option Addr} {xs : List α} (h : OwnG L e w B a n c xs) : RdG L w a n xs := by
  refine ⟨?_, h.2, own_rd h.1⟩
  have h1 := h.1.1
  rw [flat_len] at h1
  exact Nat.eq_of_mul_eq_mul_right L.pos h1
theorem OwnG.ext {α : Type} {L : Lay α} {e : TypeId} {w w' : World} {B n c : Nat} {a : Option Addr} {xs : List α} (h : OwnG L e w B a n c xs) (hb : Ext w w') : OwnG L e w' B a n c xs := ⟨own_ext h.1 hb, h.2⟩
theorem OwnG.mono {α : Type} {L : Lay α} {e : TypeId} {w : World} {B B' n c : Nat} {a : Option Addr} {xs : List α} (h : OwnG L e w B a n c xs) (hb : B' ≤ B) : OwnG L e w B' a n c xs := ⟨own_mono h.1 hb, h.2⟩
theorem OwnG.isNil {α : Type} (L : Lay α) (e : TypeId) (w : World) (B : Nat) : OwnG L e w B none 0 0 [] := ⟨by simpa using World.ownsRow_nil w B e L.sz, by decide⟩
theorem OwnG.alloc {α : Type} {L : Lay α} {e : TypeId} {w : World} {B n c : Nat} {a : Option Addr} {xs : List α} (h : OwnG L e w B a n c xs) (o : Obj) : OwnG L e (w.alloc o) B a n c xs := h.ext ((Ext.refl _).alloc _)
theorem OwnG.lit {α : Type} (L : Lay α) (e : TypeId) (w : World) {B : Nat} (hB : B ≤ w.heap.size) (xs : List α) (cs : Array Value) (hcs : cs.toList = xs.flatMap L.cells) (hn : xs.length ≤ 4294967296) :
    OwnG L e (w.alloc (.cells cs e)) B (some ⟨w.heap.size, 0, none⟩) xs.length xs.length xs := by
  refine ⟨?_, hn⟩
  have := World.ownsRow_lit (e := e) (size := L.sz) w cs xs.length hB (by unfold maxLen; omega) (by rw [← Array.length_toList, hcs, flat_len])
  rwa [hcs] at this

/-- What a call that hands back a slice in new memory leaves. -/
def NewG {α : Type} (L : Lay α) (e : TypeId) (w w' : World) (xs : List α) (v : Value) : Prop := ∃ a n c, v = .slice a n c ∧ OwnG L e w' w.heap.size a n c xs ∧ Ext w w'
theorem NewG.nil {α : Type} (L : Lay α) (e : TypeId) (w w' : World) (h : Ext w w') : NewG L e w w' [] (.slice none 0 0) := ⟨none, 0, 0, rfl, OwnG.isNil L e _ _, h⟩
theorem NewG.pre {α : Type} {L : Lay α} {e : TypeId} {w0 w w' : World} {xs : List α} {v : Value} (h0 : Ext w0 w) (h : NewG L e w w' xs v) : NewG L e w0 w' xs v := by
  obtain ⟨a, n, c, rfl, ho, hx⟩ := h
  exact ⟨a, n, c, rfl, ho.mono h0.size, h0.trans hx⟩

/-- append(s, x...): s is the call's own, x any slice of the same elements. 'z': the element's zero value; 'bytes': its width. -/
theorem wpList_appG {α : Type} (L : Lay α) {P : Program} {w : World} {ops : Array Oper} {rest : List Oper} {o : Oper} {a : Act} {Q : Exit → Act → World → Prop} (hgd : o.guard = none) (s x : Operand) (t e : TypeId)
    (ho : o.op = .call { callee := .builtin .append, args := #[s, x], argTypes := #[t, t] }) (ht : P.underlying t = some (.slice e)) (z : Value) (bytes : Nat)
    (hinfo : (P.info? e).map (fun i => (i.zero, i.size, i.bytes)) = some (some z, L.sz, bytes)) (hzs : z.cells.size = L.sz) (hby : bytes ≤ 128)
    (B : Nat) (sa : Option Addr) (n sc : Nat) (xs : List α) (hs : a.eval s = .slice sa n sc) (hown : OwnG L e w B sa n sc xs)
    (ad : Option Addr) (m c : Nat) (ys : List α) (hx : a.eval x = .slice ad m c) (hr : RdG L w ad m ys) (hsum : n + m ≤ 4294967296) (hB : B ≤ w.heap.size)
    (h : ∀ a' c' w', OwnG L e w' B a' (n + m) c' (xs ++ ys) → w.grownBy w' (Value.slice sa n sc).ownBlock → wpList P ops Q rest (a.put o.dst (.slice a' (n + m) c')) w') : wpList P ops Q (o :: rest) a w := by
  obtain ⟨i, hi, hz0, hz1, hz2⟩ := info_parts hinfo
  refine wpList_append_row hgd s x t ho B e i z L.sz bytes ht hi hz0 hz1 hz2 hzs L.pos _ n _ hs hown.1 ad m c (ys.flatMap L.cells) hx (by rw [flat_len, hr.len]) hr.2.2 (flat_one L ys) ?_ ?_ hB ?_
  · unfold maxLen; omega
  · calc (n + m) * bytes ≤ 4294967296 * 128 := Nat.mul_le_mul hsum hby
      _ ≤ 140737488355328 := by decide
  · intro v' w' h1 h2 _
    obtain ⟨a', c', rfl⟩ := own_slice h1
    exact h a' c' w' ⟨by rw [List.flatMap_append]; exact h1, hsum⟩ h2

/-- One element in a block of its own, as append's second argument. -/
theorem RdG.new1 {α : Type} (L : Lay α) (w : World) (x : α) (cs : Array Value) (hcs : cs.toList = L.cells x) (e : TypeId) : RdG L (w.alloc (.cells cs e)) (some ⟨w.heap.size, 0, none⟩) 1 [x] :=
  ⟨rfl, by decide, (OwnG.lit L e w (Nat.zero_le _) [x] cs (by simpa using hcs) (by simp)).rd.2.2⟩

/-- Behind an append of one element to what the call owns. -/
theorem Ext.appG {α : Type} {L : Lay α} {e : TypeId} {w wr w2 : World} {o : Obj} {B n c : Nat} {a : Option Addr} {xs : List α} (hb : Ext w wr) (ho : OwnG L e wr B a n c xs) (hB : w.heap.size ≤ B) (hg : (wr.alloc o).grownBy w2 (Value.slice a n c).ownBlock) : Ext w w2 :=
  (hb.alloc o).grown hg fun k e => Nat.le_trans hB (ho.1.lt k e).1

/-- The same, kept by a write to another block. -/
theorem OwnG.kept {α β : Type} {L : Lay α} {M : Lay β} {e e' : TypeId} {w w' : World} {B B' n n' c c' : Nat} {a a' : Option Addr} {xs : List α} {ys : List β} (h : Wrote w w' a) (ho : OwnG M e' w B' a' n' c' ys)
    (hw : ∃ w1 : World, OwnG L e w1 B a n c xs ∧ w1.heap.size ≤ B') : OwnG M e' w' B' a' n' c' ys := by
  obtain ⟨w1, h1, h2⟩ := hw
  exact ⟨h.kept ho.1 ⟨w1, h1.1, h2⟩, ho.2⟩

/-- A row of elements of which the first k are written, the rest are zero. -/
def partly {α : Type} (L : Lay α) (xs : List α) (k : Nat) (z : List Value) (n : Nat) : List Value := (xs.take k).flatMap L.cells ++ (List.replicate (n - k) z).flatten
theorem made_rep (z : Value) (sz n : Nat) (hz : z.cells.size = sz) (hp : 0 < sz) : (madeCells z.cells (n * sz)).toList = (List.replicate n z.cells.toList).flatten := by
  apply List.ext_getElem?
  intro j
  by_cases hj : j < n * sz
  · have hq : j / sz < n := Nat.div_lt_of_lt_mul (by rwa [Nat.mul_comm] at hj)
    have hm : j % sz < sz := Nat.mod_lt _ hp
    have key : ∀ (m i : Nat), i < m * sz → (List.replicate m z.cells.toList).flatten[i]? = z.cells.toList[i % sz]? := by
      intro m
      induction m with
      | zero => intro i hi; simp at hi
      | succ m ih =>
        intro i hi
        rw [List.replicate_succ, List.flatten_cons]
        by_cases h : i < sz
        · rw [List.getElem?_append_left (by simpa [hz] using h), Nat.mod_eq_of_lt h]
        · rw [List.getElem?_append_right (by simpa [hz] using Nat.le_of_not_lt h)]
          simp only [Array.length_toList, hz]
          rw [ih (i - sz) (by rw [Nat.succ_mul] at hi; omega), ← Nat.mod_eq_sub_mod (Nat.le_of_not_lt h)]
    rw [key n j hj]
    have hs : (j % sz) < z.cells.size := by rw [hz]; exact hm
    simp only [madeCells, Array.getElem?_toList, Array.getElem?_map, Array.getElem?_range, hj, if_true, Option.map_some, hz]
    rw [Array.getElem?_eq_getElem hs, getElem!_pos z.cells _ hs]
  · have h1 : (List.replicate n z.cells.toList).flatten.length = n * sz := by simp [hz]
    have h2 : (madeCells z.cells (n * sz)).toList.length = n * sz := by simp [madeCells]
    rw [List.getElem?_eq_none (by rw [h2]; omega), List.getElem?_eq_none (by rw [h1]; omega)]

theorem own_oldG {w : World} {B e sz g n c : Nat} {xs : List Value} (h : w.ownsRow B e sz (.slice (some ⟨g, 0, none⟩) n c) n xs) (j : Nat) (hj : j < n * sz) : ∃ u, w.cell? ⟨g, j, none⟩ = some u := by
  have hl := h.1
  have hc := h.cellAt j (by omega)
  exact ⟨_, hc.trans (List.getElem?_eq_getElem (by omega))⟩

end Go.Proofs.YtjelmidkkpchkaaGreatDoor
end

section
namespace Go.Proofs.YtjelmidkkpchkaaGreatDoor
open Go.RowKit

/-- A string's cell. -/
def layS : Lay ByteArray where
  cells s := [.string s]
  sz := 1
  len _ := rfl
  one _ u hu := by simp at hu; subst hu; rfl
  pos := by decide
def nthS (ss : List ByteArray) (k : Nat) : ByteArray := ss.getD k ByteArray.empty
theorem nthS_eq {ss : List ByteArray} {k : Nat} (h : k < ss.length) : nthS ss k = ss[k] := by simp [nthS, h]
theorem nthS_mem {ss : List ByteArray} {k : Nat} (h : k < ss.length) : nthS ss k ∈ ss := by rw [nthS_eq h]; exact List.getElem_mem h

/-- A slice of strings of moderate sizes reads as ss. -/
def RdS (w : World) (a : Option Addr) (n : Nat) (ss : List ByteArray) : Prop := RdG layS w a n ss ∧ ∀ s ∈ ss, s.size ≤ 1073741824
theorem RdS.ext {w w' : World} {a : Option Addr} {n : Nat} {ss : List ByteArray} (h : RdS w a n ss) (x : Ext w w') : RdS w' a n ss := ⟨h.1.ext x, h.2⟩
theorem RdS.len {w : World} {a : Option Addr} {n : Nat} {ss : List ByteArray} (h : RdS w a n ss) : ss.length = n := h.1.len
theorem RdS.le {w : World} {a : Option Addr} {n : Nat} {ss : List ByteArray} (h : RdS w a n ss) : n ≤ 4294967296 := h.1.le
theorem RdS.at {w : World} {a : Option Addr} {n : Nat} {ss : List ByteArray} (h : RdS w a n ss) (hn : 0 < n) :
    ∃ b o, a = some ⟨b, o, none⟩ ∧ b < w.heap.size ∧ ∀ k, k < n → w.cell? ⟨b, o + k, none⟩ = some (.string (nthS ss k)) := by
  obtain ⟨b, o, ha, hb, hc⟩ := h.1.at hn
  refine ⟨b, o, ha, hb, fun k hk => ?_⟩
  have hl := h.len
  have := hc k (nthS ss k) (by rw [nthS_eq (by omega)]; exact List.getElem?_eq_getElem (by omega)) 0 (.string (nthS ss k)) rfl
  simpa [layS] using this
theorem RdS.size {w : World} {a : Option Addr} {n : Nat} {ss : List ByteArray} (h : RdS w a n ss) {k : Nat} (hk : k < n) : (nthS ss k).size ≤ 1073741824 := h.2 _ (nthS_mem (by rw [h.len]; exact hk))
def OwnS (w : World) (B : Nat) (a : Option Addr) (n c : Nat) (ss : List ByteArray) : Prop := OwnG layS 9 w B a n c ss ∧ ∀ s ∈ ss, s.size ≤ 1073741824
theorem OwnS.rd {w : World} {B n c : Nat} {a : Option Addr} {ss : List ByteArray} (h : OwnS w B a n c ss) : RdS w a n ss := ⟨h.1.rd, h.2⟩
theorem OwnS.cap {w : World} {B n c : Nat} {a : Option Addr} {ss : List ByteArray} (h : OwnS w B a n c ss) : n ≤ c := by
  rcases h.1.1.2 with ⟨h1, h2⟩ | ⟨g, cap, cur, hv, _, _, hc, _⟩
  · omega
  · cases hv; exact hc
theorem OwnS.ext {w w' : World} {B n c : Nat} {a : Option Addr} {ss : List ByteArray} (h : OwnS w B a n c ss) (x : Ext w w') : OwnS w' B a n c ss := ⟨h.1.ext x, h.2⟩
theorem OwnS.mono {w : World} {B B' n c : Nat} {a : Option Addr} {ss : List ByteArray} (h : OwnS w B a n c ss) (hb : B' ≤ B) : OwnS w B' a n c ss := ⟨h.1.mono hb, h.2⟩
def NewS (w w' : World) (ss : List ByteArray) (v : Value) : Prop := ∃ a n c, v = .slice a n c ∧ OwnS w' w.heap.size a n c ss ∧ Ext w w'
theorem NewS.nil (w w' : World) (h : Ext w w') : NewS w w' [] (.slice none 0 0) := ⟨none, 0, 0, rfl, ⟨OwnG.isNil _ _ _ _, by simp⟩, h⟩
theorem NewS.pre {w0 w w' : World} {ss : List ByteArray} {v : Value} (h0 : Ext w0 w) (h : NewS w w' ss v) : NewS w0 w' ss v := by
  obtain ⟨a, n, c, rfl, ho, hx⟩ := h
  exact ⟨a, n, c, rfl, ho.mono h0.size, h0.trans hx⟩
theorem Tryz.info_string : (Tryz.prog.info? 9).map (fun i => (i.zero, i.size, i.bytes)) = some (some (.string ⟨#[]⟩), 1, 16) := by kernel_rfl

theorem strs_take_set (ss : List ByteArray) (k n : Nat) (z : Value) (hn : ss.length = n) (h : k < n) : ((ss.take k).flatMap layS.cells ++ List.replicate (n - k) z).set k (.string (nthS ss k)) = (ss.take (k + 1)).flatMap layS.cells ++ List.replicate (n - (k + 1)) z := by
  subst hn
  have e : ss.length - k = (ss.length - (k + 1)) + 1 := by omega
  rw [e, List.replicate_succ]
  have hl : ((ss.take k).flatMap layS.cells).length = k := by rw [flat_len]; simp [layS]; omega
  rw [List.set_append_right _ _ (by omega), hl]
  have t := List.take_succ_eq_append_getElem h
  rw [t, List.flatMap_append, nthS_eq h, List.append_assoc, Nat.sub_self]
  rfl

end Go.Proofs.YtjelmidkkpchkaaGreatDoor
end

section
namespace Go.Proofs.YtjelmidkkpchkaaGreatDoor
open Go.RowKit

/-- Only the letters a to z. -/
def lowB (s : ByteArray) : Bool := s.data.toList.all fun c => 97 ≤ c && c ≤ 122
def smallB (s : ByteArray) (lo hi : Int) : Bool := inB s.size lo hi && lowB s
def wordB (s : ByteArray) : Bool := smallB s 1 16

theorem lowB_bad {s : ByteArray} {k : Nat} (hk : k < s.size) (h : (s[k].toNat : Int) < 97 ∨ (122 : Int) < s[k].toNat) : lowB s = false := by
  rw [lowB, List.all_eq_false]
  refine ⟨s[k], ?_, ?_⟩
  · show s.data[k] ∈ s.data.toList
    simp
  · simp [UInt8.le_iff_toNat_le]
    omega
theorem lowB_good {s : ByteArray} (h : ∀ k (hk : k < s.size), 97 ≤ (s[k].toNat : Int) ∧ (s[k].toNat : Int) ≤ 122) : lowB s = true := by
  rw [lowB, List.all_eq_true]
  intro c hc
  obtain ⟨k, hk, rfl⟩ := List.getElem_of_mem hc
  have := h k (by simpa using hk)
  have e : s[k]'(by simpa using hk) = s.data.toList[k] := by simp; rfl
  rw [e] at this
  simp [UInt8.le_iff_toNat_le]
  simp at this
  omega

set_option maxHeartbeats 400000 in
theorem specIsWord_any (s : ByteArray) (w : World) (hs : s.size ≤ 9223372036854775807) :
    Calls Tryz.prog 113 #[.string s] w fun e w' => e = .returned (.bool (wordB s)) ∧ w = w' := by
  go_enter Tryz.func113, Tryz.ntmps113
  go_wp2
  go_loop [3] (fun i => ∃ k : Nat, k ≤ s.size ∧ i = .int .i64 k ∧ ∀ j (hj : j < s.size), j < k → 97 ≤ (s[j].toNat : Int) ∧ (s[j].toNat : Int) ≤ 122) (fun i => s.size - (intOf i).toNat)
  case atStart => exact ⟨0, Nat.zero_le _, rfl, fun j _ h => by omega⟩
  case round =>
    obtain ⟨k, hk, rfl, hall⟩ := hrel
    have HA := Lib.hid hall
    clear hall
    by_cases hlt : k < s.size
    · by_cases h1 : (s[k].toNat : Int) < 97
      · go_wp2
        go_ret
        exact ⟨ret_bool (by rw [wordB, smallB, lowB_bad hlt (.inl h1), Bool.and_false]), rfl⟩
      · by_cases h2 : (122 : Int) < s[k].toNat
        · go_wp2
          go_ret
          exact ⟨ret_bool (by rw [wordB, smallB, lowB_bad hlt (.inr h2), Bool.and_false]), rfl⟩
        · go_wp2
          go_round
          case rel =>
            refine ⟨k + 1, by omega, by go_num, fun j hj hjk => ?_⟩
            by_cases e : j = k
            · subst e; omega
            · exact HA.out j hj (by omega)
          case measure => simp [intOf]; omega
    · obtain rfl : k = s.size := by omega
      go_wp2_with (first | (go_at_call 55; refine (l01In_any _ _ _ _).mono ?_; rintro e w' ⟨rfl, rfl⟩))
      go_ret
      exact ⟨ret_bool (by rw [wordB, smallB, lowB_good (fun j hj => HA.out j hj hj), Bool.and_true]), rfl⟩

/-- The cutset a to z, and what strings.Trim leaves at it. -/
def abc : List UInt8 := [97, 98, 99, 100, 101, 102, 103, 104, 105, 106, 107, 108, 109, 110, 111, 112, 113, 114, 115, 116, 117, 118, 119, 120, 121, 122]
theorem abc_has (c : UInt8) : abc.contains c = (97 ≤ c && c ≤ 122) := by
  have key : ∀ n : Fin 256, abc.contains (UInt8.ofNat n.val) = (97 ≤ UInt8.ofNat n.val && UInt8.ofNat n.val ≤ 122) := by decide +kernel
  have := key ⟨c.toNat, c.toNat_lt⟩
  simpa using this
theorem dropWhile_nil {l : List UInt8} {p : UInt8 → Bool} : l.dropWhile p = [] ↔ l.all p = true := by
  induction l with
  | nil => simp
  | cons x xs ih =>
    rw [List.dropWhile_cons, List.all_cons]
    cases h : p x <;> simp [ih]
theorem trimS_nil (l : List UInt8) : Lib.trimS l abc = [] ↔ l.all (fun c => 97 ≤ c && c ≤ 122) = true := by
  have e : (fun c => abc.contains c) = (fun c : UInt8 => 97 ≤ c && c ≤ 122) := funext abc_has
  unfold Lib.trimS Lib.trimLeftS Lib.trimRightS
  rw [e, dropWhile_nil, List.all_reverse]
  constructor
  · intro h
    have h2 : (l.reverse.dropWhile fun c => 97 ≤ c && c ≤ 122) = [] := by
      cases hd : l.reverse.dropWhile fun c => 97 ≤ c && c ≤ 122 with
      | nil => rfl
      | cons x xs =>
        exfalso
        have h3 := List.head?_dropWhile_not (p := fun c : UInt8 => 97 ≤ c && c ≤ 122) l.reverse
        rw [hd] at h3 h
        simp only [List.head?_cons] at h3
        rw [List.all_cons, Bool.and_eq_true] at h
        simp_all
    rw [dropWhile_nil, List.all_reverse] at h2
    exact h2
  · intro h
    have h2 : (l.reverse.dropWhile fun c => 97 ≤ c && c ≤ 122) = [] := by rw [dropWhile_nil, List.all_reverse]; exact h
    rw [h2]; rfl

set_option maxHeartbeats 400000 in
theorem isSmall_any (s : ByteArray) (lo hi : Int) (w : World) (hs : s.size ≤ 9223372036854775807) :
    Calls Tryz.prog 104 #[.string s, .int .i64 lo, .int .i64 hi] w fun e w' => e = .returned (.bool (smallB s lo hi)) ∧ Ext w w' := by
  cases hb : inB s.size lo hi
  · have HB := Lib.hid hb
    clear hb
    go_enter Tryz.func104, Tryz.ntmps104
    go_wp2_with (first | (go_at_call 49; refine (within_any _ _ _ _).mono ?_; rintro e w' ⟨rfl, rfl⟩; rw [HB.out]))
    go_ret
    exact ⟨ret_bool (by rw [smallB, HB.out]; rfl), Ext.refl _⟩
  · have HB := Lib.hid hb
    clear hb
    cases hl : lowB s
    · have ht : ∃ x xs, Lib.trimS s.data.toList abc = x :: xs := by
        cases h : Lib.trimS s.data.toList abc with
        | nil =>
          have := (trimS_nil s.data.toList).1 h
          rw [← lowB, hl] at this
          cases this
        | cons x xs => exact ⟨x, xs, rfl⟩
      obtain ⟨x, xs, ht⟩ := ht
      have HT := Lib.hid (And.intro ht hl)
      clear ht hl
      go_enter Tryz.func104, Tryz.ntmps104
      go_wp2_with (first | (go_at_call 49; refine (within_any _ _ _ _).mono ?_; rintro e w' ⟨rfl, rfl⟩; rw [HB.out]))
      refine (Tryz.strings_Trim_laid s ⟨abc.toArray⟩ _ hs (by decide) (ascii_of_all (by decide))).mono ?_
      rintro e w1 ⟨rfl, hx⟩
      rw [show Lib.trimS s.data.toList (⟨abc.toArray⟩ : ByteArray).data.toList = x :: xs from HT.out.1]
      go_wp2
      go_ret
      exact ⟨ret_bool (by rw [smallB, HT.out.2, Bool.and_false]), hx⟩
    · have ht : Lib.trimS s.data.toList abc = [] := (trimS_nil s.data.toList).2 hl
      have HT := Lib.hid (And.intro ht hl)
      clear ht hl
      go_enter Tryz.func104, Tryz.ntmps104
      go_wp2_with (first | (go_at_call 49; refine (within_any _ _ _ _).mono ?_; rintro e w' ⟨rfl, rfl⟩; rw [HB.out]))
      refine (Tryz.strings_Trim_laid s ⟨abc.toArray⟩ _ hs (by decide) (ascii_of_all (by decide))).mono ?_
      rintro e w1 ⟨rfl, hx⟩
      rw [show Lib.trimS s.data.toList (⟨abc.toArray⟩ : ByteArray).data.toList = [] from HT.out.1]
      go_wp2
      go_ret
      exact ⟨ret_bool (by rw [smallB, HT.out.2, HB.out]; rfl), hx⟩

theorem implIsWord_any (s : ByteArray) (w : World) (hs : s.size ≤ 9223372036854775807) :
    Calls Tryz.prog 60 #[.string s] w fun e w' => e = .returned (.bool (wordB s)) ∧ Ext w w' := by
  go_enter Tryz.func60, Tryz.ntmps60
  go_wp2_with (first | (go_at_call 104; refine (isSmall_any _ _ _ _ hs).mono ?_; rintro e w1 ⟨rfl, hx⟩))
  go_ret
  exact ⟨rfl, hx⟩

end Go.Proofs.YtjelmidkkpchkaaGreatDoor
end

section
namespace Go.Proofs.YtjelmidkkpchkaaGreatDoor
open Go.RowKit

def wordsB (ss : List ByteArray) : Bool := ss.all wordB
theorem wordsB_bad {ss : List ByteArray} {k : Nat} (hk : k < ss.length) (h : wordB (nthS ss k) = false) : wordsB ss = false := by
  rw [wordsB, List.all_eq_false]
  exact ⟨_, nthS_mem hk, by simp [h]⟩
theorem wordsB_good {ss : List ByteArray} (h : ∀ k, k < ss.length → wordB (nthS ss k) = true) : wordsB ss = true := by
  rw [wordsB, List.all_eq_true]
  intro s hs
  obtain ⟨k, hk, rfl⟩ := List.getElem_of_mem hs
  rw [← nthS_eq hk]
  exact h k hk
theorem wordsB_at {ss : List ByteArray} (h : wordsB ss = true) {k : Nat} (hk : k < ss.length) : wordB (nthS ss k) = true := by
  rw [wordsB, List.all_eq_true] at h
  exact h _ (nthS_mem hk)
theorem wordB_size {s : ByteArray} (h : wordB s = true) : 1 ≤ s.size ∧ s.size ≤ 16 := by
  rw [wordB, smallB, Bool.and_eq_true] at h
  have := inB_iff.1 h.1
  omega
theorem wordB_low {s : ByteArray} (h : wordB s = true) : lowB s = true := by
  rw [wordB, smallB, Bool.and_eq_true] at h
  exact h.2

set_option maxHeartbeats 400000 in
theorem areWords_any (a : Option Addr) (n c : Nat) (ss : List ByteArray) (w : World) (hr : RdS w a n ss) :
    Calls Tryz.prog 94 #[.slice a n c] w fun e w' => e = .returned (.bool (wordsB ss)) ∧ Ext w w' := by
  have hm := hr.le
  go_enter Tryz.func94, Tryz.ntmps94
  go_wp2
  go_loopw [7] (fun i wr => ∃ k : Nat, k ≤ n ∧ i = .int .i64 k ∧ (∀ j, j < k → wordB (nthS ss j) = true) ∧ Ext w wr) (fun i _ => n - (intOf i).toNat)
  case atStart => exact ⟨0, Nat.zero_le _, rfl, fun j h => by omega, Ext.refl _⟩
  case round =>
    obtain ⟨k, hk, rfl, hall, hb⟩ := hrel
    have HA := Lib.hid hall
    clear hall
    by_cases hlt : k < n
    · obtain ⟨b, o, rfl, hbl, hc⟩ := (hr.ext hb).at (by omega)
      have hck := hc k hlt
      have hsz := hr.size hlt
      clear hc
      cases h : wordB (nthS ss k)
      all_goals
        have HH := Lib.hid h
        clear h
        go_wp2_with fail
        refine (implIsWord_any _ _ (by omega)).mono ?_
        rintro e w1 ⟨rfl, hx⟩
        rw [HH.out]
        go_wp2
      · go_ret
        exact ⟨ret_bool (wordsB_bad (by rw [hr.len]; exact hlt) HH.out).symm, hb.trans hx⟩
      · go_roundw
        case rel =>
          refine ⟨k + 1, by omega, by go_num, fun j hj => ?_, hb.trans hx⟩
          by_cases e : j = k
          · rw [e]; exact HH.out
          · exact HA.out j (by omega)
        case measure => simp [intOf]; omega
    · obtain rfl : k = n := by omega
      go_wp2
      go_ret
      exact ⟨ret_bool (wordsB_good (by rw [hr.len]; exact HA.out)).symm, hb⟩

/-- A slice of strings that came in; sizes not bounded by us. -/
def InS (w : World) (a : Option Addr) (n : Nat) (ss : List ByteArray) : Prop := ss.length = n ∧ n ≤ 9223372036854775807 ∧ Rd w a (ss.flatMap layS.cells) ∧ ∀ s ∈ ss, s.size ≤ 9223372036854775807
/-- All bytes of some strings. -/
def tot (ss : List ByteArray) : Nat := (ss.map ByteArray.size).sum
theorem tot_take {ss : List ByteArray} {k : Nat} (hk : k < ss.length) : tot (ss.take (k + 1)) = tot (ss.take k) + (nthS ss k).size := by
  rw [tot, tot, List.take_succ_eq_append_getElem hk, List.map_append, List.sum_append, nthS_eq hk]
  simp
theorem tot_le {ss : List ByteArray} {s : ByteArray} (h : s ∈ ss) : s.size ≤ tot ss := by
  induction ss with
  | nil => simp at h
  | cons x xs ih =>
    rw [tot, List.map_cons, List.sum_cons]
    rcases List.mem_cons.1 h with rfl | h
    · omega
    · have := ih h
      rw [tot] at this
      omega
theorem InS.rdS {w : World} {a : Option Addr} {n : Nat} {ss : List ByteArray} (h : InS w a n ss) (hn : n ≤ 4294967296) (hs : ∀ s ∈ ss, s.size ≤ 1073741824) : RdS w a n ss := ⟨⟨h.1, hn, h.2.2.1⟩, hs⟩
theorem InS.at {w : World} {a : Option Addr} {n : Nat} {ss : List ByteArray} (h : InS w a n ss) (hn : 0 < n) :
    ∃ b o, a = some ⟨b, o, none⟩ ∧ b < w.heap.size ∧ ∀ k, k < n → w.cell? ⟨b, o + k, none⟩ = some (.string (nthS ss k)) := by
  have hl := h.1
  obtain ⟨b, o, ha, hb, hc⟩ := h.2.2.1.pos (by rw [flat_len, hl]; exact Nat.mul_pos hn (by decide))
  refine ⟨b, o, ha, hb, fun k hk => hc k _ ?_⟩
  have := flat_get layS ss k 0 (nthS ss k) (by rw [nthS_eq (by omega)]; exact List.getElem?_eq_getElem (by omega)) (by decide)
  simpa [layS] using this

/-- What counting leaves: nothing, if it is not negative: how much is left. -/
def Left (n m : Nat) (left r : Int) : Prop := (0 ≤ r → (n : Int) + m + r = left) ∧ (r < 0 → r = -1)

end Go.Proofs.YtjelmidkkpchkaaGreatDoor
end

section
namespace Go.Proofs.YtjelmidkkpchkaaGreatDoor
open Go.RowKit

/-- Where s lies first, -1 if nowhere. -/
def idxS (ss : List ByteArray) (s : ByteArray) : Int := match ss.findIdx? (fun x => x.data.toList == s.data.toList) with | some k => (k : Int) | none => -1
def hasS (ss : List ByteArray) (s : ByteArray) : Bool := decide (0 ≤ idxS ss s)
theorem eqS {a b : ByteArray} : (a.data.toList = b.data.toList) ↔ a = b := ⟨fun h => Go.WideShapes.bytes_inj h, fun h => by rw [h]⟩
theorem idxS_at {ss : List ByteArray} {s : ByteArray} {k : Nat} (hk : k < ss.length) (h : nthS ss k = s) (hp : ∀ j, j < k → nthS ss j ≠ s) : idxS ss s = k := by
  have e : ss.findIdx? (fun x => x.data.toList == s.data.toList) = some k := by
    rw [List.findIdx?_eq_some_iff_getElem]
    refine ⟨hk, ?_, fun j hj => ?_⟩
    · rw [nthS_eq hk] at h; rw [h]; simp
    · have := hp j hj
      rw [nthS_eq (by omega)] at this
      simp only [beq_iff_eq]
      exact fun h2 => this (eqS.1 h2)
  rw [idxS, e]
theorem idxS_none {ss : List ByteArray} {s : ByteArray} (hp : ∀ j, j < ss.length → nthS ss j ≠ s) : idxS ss s = -1 := by
  have e : ss.findIdx? (fun x => x.data.toList == s.data.toList) = none := by
    rw [List.findIdx?_eq_none_iff]
    intro x hx
    obtain ⟨j, hj, rfl⟩ := List.getElem_of_mem hx
    have := hp j hj
    rw [nthS_eq hj] at this
    simp only [beq_eq_false_iff_ne]
    exact fun h2 => this (eqS.1 h2)
  rw [idxS, e]
theorem idxS_lt {ss : List ByteArray} {s : ByteArray} : idxS ss s < ss.length ∧ -1 ≤ idxS ss s := by
  unfold idxS
  cases h : ss.findIdx? (fun x => x.data.toList == s.data.toList) with
  | none => exact ⟨by simp only; omega, by simp⟩
  | some k =>
    have := (List.findIdx?_eq_some_iff_getElem.1 h).1
    simp; omega
theorem idxS_of {ss : List ByteArray} {s : ByteArray} {k : Nat} (h : idxS ss s = k) : k < ss.length ∧ nthS ss k = s ∧ ∀ j, j < k → nthS ss j ≠ s := by
  unfold idxS at h
  cases h2 : ss.findIdx? (fun x => x.data.toList == s.data.toList) with
  | none => rw [h2] at h; simp only at h; omega
  | some m =>
    rw [h2] at h
    obtain rfl : m = k := by simp only at h; omega
    obtain ⟨hk, he, hp⟩ := List.findIdx?_eq_some_iff_getElem.1 h2
    refine ⟨hk, ?_, fun j hj => ?_⟩
    · rw [nthS_eq hk]; exact eqS.1 (by simpa using he)
    · have := hp j hj
      rw [nthS_eq (by omega)]
      exact fun h3 => this (by rw [h3]; simp)
theorem hasS_at {ss : List ByteArray} {s : ByteArray} {k : Nat} (hk : k < ss.length) (h : nthS ss k = s) : hasS ss s = true := by
  cases hb : hasS ss s
  · exfalso
    have : idxS ss s = -1 := by
      have := (idxS_lt (ss := ss) (s := s)).2
      simp [hasS] at hb
      omega
    unfold idxS at this
    cases h2 : ss.findIdx? (fun x => x.data.toList == s.data.toList) with
    | none =>
      have := List.findIdx?_eq_none_iff.1 h2 _ (nthS_mem hk)
      rw [h] at this
      simp at this
    | some m => rw [h2] at this; simp at this
  · rfl
theorem hasS_of {ss : List ByteArray} {s : ByteArray} (h : hasS ss s = true) : ∃ k, k < ss.length ∧ nthS ss k = s ∧ (∀ j, j < k → nthS ss j ≠ s) ∧ idxS ss s = k := by
  simp [hasS] at h
  obtain ⟨k, hk⟩ := Int.eq_ofNat_of_zero_le h
  obtain ⟨h1, h2, h3⟩ := idxS_of hk
  exact ⟨k, h1, h2, h3, hk⟩
theorem hasS_none {ss : List ByteArray} {s : ByteArray} (hp : ∀ j, j < ss.length → nthS ss j ≠ s) : hasS ss s = false := by
  rw [hasS, idxS_none hp]; rfl
theorem beqS_eq {a b : ByteArray} (h : a = b) : (a.toList == b.toList) = true := by rw [h]; simp
theorem beqS_ne {a b : ByteArray} (h : a ≠ b) : (a.toList == b.toList) = false := by
  rw [beq_eq_false_iff_ne]
  intro e
  rw [ByteArray.toList_eq, ByteArray.toList_eq] at e
  exact h (eqS.1 e)

/-- The front of a slice of strings. -/
theorem Rd.front {w : World} {a : Option Addr} {xs ys : List Value} (h : Rd w a (xs ++ ys)) : Rd w a xs := by
  rcases h with h | ⟨b, o, rfl, hb, hc⟩
  · exact .inl (List.append_eq_nil_iff.1 h).1
  · refine .inr ⟨b, o, rfl, hb, fun j u hu => hc j u ?_⟩
    rw [List.getElem?_append_left (List.getElem?_eq_some_iff.1 hu).1]
    exact hu
theorem RdS.front {w : World} {a : Option Addr} {n : Nat} {ss : List ByteArray} (h : RdS w a n ss) {k : Nat} (hk : k ≤ n) : RdS w a k (ss.take k) := by
  have hl := h.len
  have h2 := h.1.2.2
  rw [← List.take_append_drop k ss, List.flatMap_append] at h2
  exact ⟨⟨by simp; omega, Nat.le_trans hk h.le, Rd.front h2⟩, fun s hs => h.2 s (List.mem_of_mem_take hs)⟩

set_option maxHeartbeats 400000 in
theorem l03Find_any (a : Option Addr) (n c : Nat) (s : ByteArray) (ss : List ByteArray) (w : World) (hr : RdS w a n ss) :
    Calls Tryz.prog 163 #[.slice a n c, .string s] w fun e w' => e = .returned (.int .i64 (idxS ss s)) ∧ w = w' := by
  have hm := hr.le
  go_enter Tryz.func163, Tryz.ntmps163
  go_wp2
  go_loop [5] (fun i => ∃ k : Nat, k ≤ n ∧ i = .int .i64 k ∧ ∀ j, j < k → nthS ss j ≠ s) (fun i => n - (intOf i).toNat)
  case atStart => exact ⟨0, Nat.zero_le _, rfl, by simp⟩
  case round =>
    obtain ⟨k, hk, rfl, hall⟩ := hrel
    have HA := Lib.hid hall
    clear hall
    by_cases hlt : k < n
    · obtain ⟨b, o, rfl, hbl, hc⟩ := hr.at (by omega)
      have hck := hc k hlt
      clear hc
      by_cases h : nthS ss k = s
      · have HH := Lib.hid h
        have hb := beqS_eq h
        clear h
        go_wp2
        go_ret
        exact ⟨ret_int (idxS_at (by rw [hr.len]; exact hlt) HH.out HA.out).symm, rfl⟩
      · have HH := Lib.hid h
        have hb := beqS_ne h
        clear h
        go_wp2
        go_round
        case rel =>
          refine ⟨k + 1, by omega, by go_num, fun j hj => ?_⟩
          by_cases e : j = k
          · rw [e]; exact HH.out
          · exact HA.out j (by omega)
        case measure => simp [intOf]; omega
    · obtain rfl : k = n := by omega
      go_wp2
      go_ret
      exact ⟨ret_int (idxS_none (by rw [hr.len]; exact HA.out)).symm, rfl⟩

set_option maxHeartbeats 400000 in
theorem slIndex_string_any (a : Option Addr) (n c : Nat) (s : ByteArray) (ss : List ByteArray) (w : World) (hr : RdS w a n ss) :
    Calls Tryz.prog 202 #[.slice a n c, .string s] w fun e w' => e = .returned (.int .i64 (idxS ss s)) ∧ w = w' := by
  have hm := hr.le
  go_enter Tryz.func202, Tryz.ntmps202
  go_wp2
  go_loop [8] (fun i => ∃ k : Nat, k ≤ n ∧ i = .int .i64 k ∧ ∀ j, j < k → nthS ss j ≠ s) (fun i => n - (intOf i).toNat)
  case atStart => exact ⟨0, Nat.zero_le _, rfl, by simp⟩
  case round =>
    obtain ⟨k, hk, rfl, hall⟩ := hrel
    have HA := Lib.hid hall
    clear hall
    by_cases hlt : k < n
    · obtain ⟨b, o, rfl, hbl, hc⟩ := hr.at (by omega)
      have hck := hc k hlt
      clear hc
      by_cases h : nthS ss k = s
      · have HH := Lib.hid h
        have hb := beqS_eq h.symm
        clear h
        go_wp2
        go_ret
        exact ⟨ret_int (idxS_at (by rw [hr.len]; exact hlt) HH.out HA.out).symm, rfl⟩
      · have HH := Lib.hid h
        have hb := beqS_ne (fun e => h e.symm)
        clear h
        go_wp2
        go_round
        case rel =>
          refine ⟨k + 1, by omega, by go_num, fun j hj => ?_⟩
          by_cases e : j = k
          · rw [e]; exact HH.out
          · exact HA.out j (by omega)
        case measure => simp [intOf]; omega
    · obtain rfl : k = n := by omega
      go_wp2
      go_ret
      exact ⟨ret_int (idxS_none (by rw [hr.len]; exact HA.out)).symm, rfl⟩

theorem slContains_string_any (a : Option Addr) (n c : Nat) (s : ByteArray) (ss : List ByteArray) (w : World) (hr : RdS w a n ss) :
    Calls Tryz.prog 167 #[.slice a n c, .string s] w fun e w' => e = .returned (.bool (hasS ss s)) ∧ w = w' := by
  go_enter Tryz.func167, Tryz.ntmps167
  go_wp2_with (go_at_call 202; refine (slIndex_string_any _ _ _ _ _ _ hr).mono ?_; rintro e w' ⟨rfl, rfl⟩)
  go_ret
  exact ⟨ret_bool rfl, rfl⟩

end Go.Proofs.YtjelmidkkpchkaaGreatDoor
end

section
namespace Go.Proofs.YtjelmidkkpchkaaGreatDoor
open Go.RowKit

theorem takeNo {P : Program} {md : Region.Mode} {ops : Array Oper} {Q : Exit → Act → World → Prop} (i d : Nat) {oi : Oper} {fuel : Nat} {listed : Array Bool} {a : Act} {w : World} (hi : ops[i]? = some oi) (hd : oi.dst = some d)
    (hs : Region.noSelect ops = true) (hf : Region.free md ops listed i = true) (hr : (Region.ready md ops listed).contains i = true)
    (hQ : ∀ c a w v, Q (.panic c) (a.put oi.dst v) w → Q (.panic c) a w) (hw : Region.wanted oi (yielded ops a.tmps) = false)
    (h : wpAny P md ops Q fuel (listed.setIfInBounds i true) (a.put (some d) undef) w) : wpAny P md ops Q (fuel + 1) listed a w :=
  wpAny_take (v := undef) hi hs hf hr (fun c a w h => hQ c a w _ h) (Or.inr ⟨hw, rfl⟩) (by rw [hd]; exact h)
theorem takeYes {P : Program} {md : Region.Mode} {ops : Array Oper} {Q : Exit → Act → World → Prop} (i d : Nat) (v : Value) {oi : Oper} {fuel : Nat} {listed : Array Bool} {a : Act} {w : World} (hi : ops[i]? = some oi) (hd : oi.dst = some d)
    (hs : Region.noSelect ops = true) (hf : Region.free md ops listed i = true) (hr : (Region.ready md ops listed).contains i = true)
    (hQ : ∀ c a w v, Q (.panic c) (a.put oi.dst v) w → Q (.panic c) a w) (hw : Region.wanted oi (yielded ops a.tmps) = true)
    (hy : ∀ w, (execOp a.eval oi).run P w = .ok (.value v) w)
    (h : wpAny P md ops Q fuel (listed.setIfInBounds i true) (a.put (some d) v) w) : wpAny P md ops Q (fuel + 1) listed a w :=
  wpAny_take (v := v) hi hs hf hr (fun c a w h => hQ c a w _ h) (Or.inl ⟨hw, hy⟩) (by rw [hd]; exact h)

theorem takeNoH {P : Program} {md : Region.Mode} {ops : Array Oper} {Q : Exit → Act → World → Prop} {S : World → Prop} (i d : Nat) {oi : Oper} {fuel : Nat} {listed : Array Bool} {a : Act} {w : World} (hi : ops[i]? = some oi) (hd : oi.dst = some d)
    (hs : Region.noSelect ops = true) (hf : Region.free md ops listed i = true) (hr : (Region.ready md ops listed).contains i = true)
    (hQ : ∀ c a w v, Q (.panic c) (a.put oi.dst v) w → Q (.panic c) a w) (hw : Region.wanted oi (yielded ops a.tmps) = false) (hS : S w)
    (h : wpAnyH P md ops Q S fuel (listed.setIfInBounds i true) (a.put (some d) undef) w) : wpAnyH P md ops Q S (fuel + 1) listed a w :=
  wpAnyH_take (v := undef) hi hs hf hr (fun c a w h => hQ c a w _ h) (Or.inr ⟨hw, rfl⟩) hS (by rw [hd]; exact h)
theorem takeYesH {P : Program} {md : Region.Mode} {ops : Array Oper} {Q : Exit → Act → World → Prop} {S : World → Prop} (i d : Nat) (v : Value) {oi : Oper} {fuel : Nat} {listed : Array Bool} {a : Act} {w : World} (hi : ops[i]? = some oi) (hd : oi.dst = some d)
    (hs : Region.noSelect ops = true) (hf : Region.free md ops listed i = true) (hr : (Region.ready md ops listed).contains i = true)
    (hQ : ∀ c a w v, Q (.panic c) (a.put oi.dst v) w → Q (.panic c) a w) (hw : Region.wanted oi (yielded ops a.tmps) = true) (hS : S w)
    (hy : ∀ w, S w → (execOp a.eval oi).run P w = .ok (.value v) w)
    (h : wpAnyH P md ops Q S fuel (listed.setIfInBounds i true) (a.put (some d) v) w) : wpAnyH P md ops Q S (fuel + 1) listed a w :=
  wpAnyH_take (v := v) hi hs hf hr (fun c a w h => hQ c a w _ h) (Or.inl ⟨hw, hy⟩) hS (by rw [hd]; exact h)

end Go.Proofs.YtjelmidkkpchkaaGreatDoor
end

section
namespace Go.Proofs.YtjelmidkkpchkaaGreatDoor
open Go.RowKit

theorem flat_set {α : Type} (L : Lay α) {x x' : α} {u : Value} {j : Nat} (hj : j < L.sz) (hx : L.cells x' = (L.cells x).set j u) : ∀ (xs : List α) (k : Nat), xs[k]? = some x → (xs.flatMap L.cells).set (k * L.sz + j) u = (xs.set k x').flatMap L.cells
  | [], k, h => by simp at h
  | y :: ys, 0, h => by
    obtain rfl : y = x := by simpa using h
    rw [List.flatMap_cons, List.set_cons_zero, List.flatMap_cons, hx, Nat.zero_mul, Nat.zero_add, List.set_append_left _ _ (by rw [L.len]; exact hj)]
  | y :: ys, k + 1, h => by
    rw [List.flatMap_cons, List.set_cons_succ, List.flatMap_cons, List.set_append_right _ _ (by rw [L.len, Nat.succ_mul]; omega), L.len]
    rw [show (k + 1) * L.sz + j - L.sz = k * L.sz + j by rw [Nat.succ_mul]; omega, flat_set L hj hx ys k (by simpa using h)]
/-- One cell of one element is written. -/
theorem OwnG.setAt {α : Type} {L : Lay α} {e : TypeId} {w : World} {B g n c : Nat} {xs : List α} (h : OwnG L e w B (some ⟨g, 0, none⟩) n c xs) {k j : Nat} {x x' : α} {u : Value} (hk : xs[k]? = some x) (hj : j < L.sz) (hx : L.cells x' = (L.cells x).set j u) :
    OwnG L e (w.setCell ⟨g, k * L.sz + j, none⟩ u) B (some ⟨g, 0, none⟩) n c (xs.set k x') ∧ w.grownBy (w.setCell ⟨g, k * L.sz + j, none⟩ u) (some g) := by
  obtain ⟨h1, h2⟩ := h.1.stored (k * L.sz + j) u
  rw [flat_set L hj hx xs k hk] at h1
  exact ⟨⟨h1, h.2⟩, h2⟩
theorem grown_trans' {w w1 w2 : World} {r : Option Nat} (h : w.grownBy w1 r) (k : w1.grownBy w2 r) : w.grownBy w2 r :=
  ⟨k.os.trans h.os, k.tape.trans h.tape, k.output.trans h.output, Nat.le_trans h.size k.size, fun j hj hr => (k.block j (Nat.lt_of_lt_of_le hj h.size) hr).trans (h.block j hj hr)⟩
/-- A row of cells is written. -/
theorem own_setCells {B e sz g n c : Nat} : ∀ (vs : List Value) (off : Nat) (w : World) (xs : List Value), w.ownsRow B e sz (.slice (some ⟨g, 0, none⟩) n c) n xs → off + vs.length ≤ xs.length →
    (w.setCells g off vs).ownsRow B e sz (.slice (some ⟨g, 0, none⟩) n c) n (xs.take off ++ vs ++ xs.drop (off + vs.length)) ∧ w.grownBy (w.setCells g off vs) (some g)
  | [], off, w, xs, h, _ => by
    refine ⟨?_, World.grownBy.refl _ _⟩
    simpa [World.setCells] using h
  | v :: r, off, w, xs, h, hl => by
    obtain ⟨h1, h2⟩ := h.stored off v
    have hl' : off < xs.length := by simp at hl; omega
    obtain ⟨i1, i2⟩ := own_setCells r (off + 1) (w.setCell ⟨g, off, none⟩ v) (xs.set off v) h1 (by simp at hl ⊢; omega)
    refine ⟨?_, grown_trans' h2 i2⟩
    have e : (xs.set off v).take (off + 1) ++ r ++ (xs.set off v).drop (off + 1 + r.length) = xs.take off ++ v :: r ++ xs.drop (off + (r.length + 1)) := by
      rw [List.take_succ_eq_append_getElem (by simpa using hl'), List.getElem_set_self, List.take_set, List.set_eq_of_length_le (by simp; omega), List.drop_set, if_pos (by omega), show off + 1 + r.length = off + (r.length + 1) by omega]
      simp
    rw [e] at i1
    exact i1
/-- Cut to fewer elements. -/
theorem own_cut {w : World} {B e sz g n c m : Nat} {xs : List Value} (h : w.ownsRow B e sz (.slice (some ⟨g, 0, none⟩) n c) n xs) (hm : m ≤ n) : w.ownsRow B e sz (.slice (some ⟨g, 0, none⟩) m c) m (xs.take (m * sz)) := by
  have hmul : m * sz ≤ n * sz := Nat.mul_le_mul_right _ hm
  refine ⟨by rw [List.length_take, h.1]; omega, ?_⟩
  rcases h.2 with ⟨h', _⟩ | ⟨g', cap, cur, hv, hb, hg, h1, h2, h3, h4⟩
  · cases h'
  · cases hv
    refine .inr ⟨g, c, cur, rfl, hb, hg, Nat.le_trans hm h1, h2, h3, ?_⟩
    rw [← h4, List.take_take, Nat.min_eq_left hmul]
theorem OwnG.cut {α : Type} {L : Lay α} {e : TypeId} {w : World} {B g n c m : Nat} {xs : List α} (h : OwnG L e w B (some ⟨g, 0, none⟩) n c xs) (hm : m ≤ n) : OwnG L e w B (some ⟨g, 0, none⟩) m c (xs.take m) := by
  have hl := h.rd.len
  have h1 := own_cut h.1 hm
  have e2 : (xs.flatMap L.cells).take (m * L.sz) = (xs.take m).flatMap L.cells := by
    have e3 := List.take_append_drop m xs
    have e4 : xs.flatMap L.cells = (xs.take m).flatMap L.cells ++ (xs.drop m).flatMap L.cells := by rw [← List.flatMap_append, e3]
    rw [e4, List.take_append_of_le_length (by rw [flat_len, List.length_take, Nat.min_eq_left (by omega)]; exact Nat.le_refl _), List.take_of_length_le (by rw [flat_len, List.length_take, Nat.min_eq_left (by omega)]; exact Nat.le_refl _)]
  rw [e2] at h1
  exact ⟨h1, Nat.le_trans hm h.2⟩
/-- 'clear' of one element of many cells. -/
theorem run_clear_one {P : Program} (w : World) (t e ty : TypeId) (z : Value) (ht : P.underlying t = some (.slice e)) (hv : ∀ w, (zeroValue e).run P w = .ok z w) (h1 : ∀ u ∈ z.cells.toList, u.oneCell' = true) (b o c : Nat)
    (hc : ∀ j, j < z.cells.size → (w.cell? ⟨b, o + j, none⟩).isSome = true) (hf : ∀ j, j < z.cells.size → w.frozen? ⟨b, o + j, none⟩ = false) :
    (Builtin.clear_ #[t] ty #[.slice (some ⟨b, o, none⟩) 1 c]).run P w = .ok (.tuple #[]) (w.setCells b o z.cells.toList) := by
  have hzc : (Builtin.zeroCells z.cells 1).toList = z.cells.toList := by
    apply List.ext_getElem
    · simp [Builtin.zeroCells]
    · intro i h1 h2
      simp only [Array.length_toList] at h2
      simp [Builtin.zeroCells, Nat.mod_eq_of_lt h2, getElem!_pos, h2]
  have hst := run_storeCells_cells (P := P) b o z.cells.toList 0 w (by simpa using hc) (by simpa using hf) h1
  simp only [Nat.add_zero] at hst
  simp [Builtin.clear_, run_underlying ht, hv, hzc, hst]
end Go.Proofs.YtjelmidkkpchkaaGreatDoor
end

section
namespace Go.Proofs.YtjelmidkkpchkaaGreatDoor
open Go.RowKit

theorem step_append_row {P : Program} {w : World} {ops : Array Oper} {o : Oper} {a : Act} {K : Act → World → Prop} {Q : Exit → Act → World → Prop} {E : Prop} (hgd : o.guard = none) (s x : Operand) (t : TypeId)
    (ho : o.op = .call { callee := .builtin .append, args := #[s, x], argTypes := #[t, t] })
    (base : Nat) (e : TypeId) (i : TypeInfo) (z : Value) (size bytes : Nat) (ht : P.underlying t = some (.slice e)) (hi : P.info? e = some i) (hz : i.zero = some z)
    (hsize : i.size = size) (hby : i.bytes = bytes) (hzs : z.cells.size = size) (hsz : 0 < size)
    (v : Value) (n : Nat) (xs : List Value) (hs : a.eval s = v) (hown : w.ownsRow base e size v n xs)
    (ad : Option Addr) (m c : Nat) (news : List Value) (hx : a.eval x = .slice ad m c) (hl : news.length = m * size) (hrd : Rd w ad news) (h1 : ∀ u ∈ news, u.oneCell' = true)
    (h63 : n + m ≤ maxLen) (hbytes : (n + m) * bytes ≤ 140737488355328) (hbase : base ≤ w.heap.size)
    (h : ∀ v' w', w'.ownsRow base e size v' (n + m) (xs ++ news) → w.grownBy w' v.ownBlock → K (a.put o.dst v') w') : if Region.wanted o (yielded ops a.tmps) = true then Oper.wp P o a w K Q else E := by
  have hw : Region.wanted o (yielded ops a.tmps) = true := by simp [Region.wanted, hgd]
  rw [if_pos hw]
  cases ad with
  | some ad => exact wp_append_own w s x t ho base e i z size bytes ht hi hz hsize hby hzs hsz v n xs hs hown ad m c news hx hl (hrd.cells ad rfl) h1 h63 hbytes hbase (fun v' w' h2 h3 _ => h v' w' h2 h3)
  | none =>
    have hnews : news = [] := by
      rcases hrd with h | ⟨b, o, h, _⟩
      · exact h
      · cases h
    subst hnews
    have hm : m = 0 := by
      have : m * size = 0 := by simpa using hl.symm
      rcases Nat.mul_eq_zero.1 this with h | h
      · exact h
      · omega
    subst hm
    have hrun : (Builtin.append_ #[t, t] o.type #[v, .slice none 0 c]).run P w = .ok v w := by
      rcases hown.2 with ⟨rfl, rfl⟩ | ⟨g, cap, cur, rfl, _, _, hnc, _⟩
      · simp [Builtin.append_, run_underlying ht, sizeOf, typeInfo, hi, Builtin.lenOf, Builtin.firstCells]
      · simp [Builtin.append_, run_underlying ht, sizeOf, typeInfo, hi, Builtin.lenOf, Builtin.firstCells, hnc, storeCells]
    unfold Oper.wp
    simp [execOp, ho, resolve, invoke, builtin, hs, hx, hrun, Result.andThen]
    exact h v w (by simpa using hown) (World.grownBy.refl _ _)

theorem step_appG {α : Type} (L : Lay α) {P : Program} {w : World} {ops : Array Oper} {o : Oper} {a : Act} {K : Act → World → Prop} {Q : Exit → Act → World → Prop} {E : Prop} (hgd : o.guard = none) (s x : Operand) (t e : TypeId)
    (ho : o.op = .call { callee := .builtin .append, args := #[s, x], argTypes := #[t, t] }) (ht : P.underlying t = some (.slice e)) (z : Value) (bytes : Nat)
    (hinfo : (P.info? e).map (fun i => (i.zero, i.size, i.bytes)) = some (some z, L.sz, bytes)) (hzs : z.cells.size = L.sz) (hby : bytes ≤ 128)
    (B : Nat) (sa : Option Addr) (n sc : Nat) (xs : List α) (hs : a.eval s = .slice sa n sc) (hown : OwnG L e w B sa n sc xs)
    (ad : Option Addr) (m c : Nat) (ys : List α) (hx : a.eval x = .slice ad m c) (hr : RdG L w ad m ys) (hsum : n + m ≤ 4294967296) (hB : B ≤ w.heap.size)
    (h : ∀ a' c' w', OwnG L e w' B a' (n + m) c' (xs ++ ys) → w.grownBy w' (Value.slice sa n sc).ownBlock → K (a.put o.dst (.slice a' (n + m) c')) w') : if Region.wanted o (yielded ops a.tmps) = true then Oper.wp P o a w K Q else E := by
  obtain ⟨i, hi, hz0, hz1, hz2⟩ := info_parts hinfo
  refine step_append_row hgd s x t ho B e i z L.sz bytes ht hi hz0 hz1 hz2 hzs L.pos _ n _ hs hown.1 ad m c (ys.flatMap L.cells) hx (by rw [flat_len, hr.len]) hr.2.2 (flat_one L ys) ?_ ?_ hB ?_
  · unfold maxLen; omega
  · calc (n + m) * bytes ≤ 4294967296 * 128 := Nat.mul_le_mul hsum hby
      _ ≤ 140737488355328 := by decide
  · intro v' w' h1 h2
    obtain ⟨a', c', rfl⟩ := own_slice h1
    exact h a' c' w' ⟨by rw [List.flatMap_append]; exact h1, hsum⟩ h2

theorem Rd.grown {w w' : World} {row : Option Nat} {b o : Nat} {xs : List Value} (h : Rd w (some ⟨b, o, none⟩) xs) (hg : w.grownBy w' row) (hne : some b ≠ row) : Rd w' (some ⟨b, o, none⟩) xs := by
  rcases h with h | ⟨b', o', he, hb, hc⟩
  · exact .inl h
  · cases he
    exact .inr ⟨_, _, rfl, Nat.lt_of_lt_of_le hb hg.size, fun j u hu => (World.cell?_of_block (hg.block _ hb hne)).trans (hc j u hu)⟩
theorem RdG.grown {α : Type} {L : Lay α} {w w' : World} {row : Option Nat} {b o n : Nat} {xs : List α} (h : RdG L w (some ⟨b, o, none⟩) n xs) (hg : w.grownBy w' row) (hne : some b ≠ row) : RdG L w' (some ⟨b, o, none⟩) n xs := ⟨h.1, h.2.1, Rd.grown h.2.2 hg hne⟩

theorem step_appI {w : World} {ops : Array Oper} {o : Oper} {a : Act} {K : Act → World → Prop} {Q : Exit → Act → World → Prop} {E : Prop} (hgd : o.guard = none) (s x : Operand)
    (ho : o.op = .call { callee := .builtin .append, args := #[s, x], argTypes := #[30, 30] })
    (B : Nat) (v : Value) (n : Nat) (xs : List Int) (hs : a.eval s = v) (hown : w.ownsRow B 2 1 v n (xs.map (Value.int .i64)))
    (ad : Option Addr) (m c : Nat) (ys : List Int) (hx : a.eval x = .slice ad m c) (hr : RdI w ad m ys) (hsum : n + m ≤ 4294967296) (hB : B ≤ w.heap.size)
    (h : ∀ a' c' w', OwnI w' B a' (n + m) c' (xs ++ ys) → w.grownBy w' v.ownBlock → K (a.put o.dst (.slice a' (n + m) c')) w') : if Region.wanted o (yielded ops a.tmps) = true then Oper.wp Tryz.prog o a w K Q else E := by
  obtain ⟨i, hi, hz0, hz1, hz2⟩ := info_parts Tryz.info_i64
  refine step_append_row hgd s x 30 ho B 2 i (.int .i64 0) 1 8 Tryz.underlying30 hi hz0 hz1 hz2 rfl (by decide) v n _ hs hown ad m c (ys.map (Value.int .i64)) hx (by simpa using hr.len) hr.2.2 ?_ ?_ ?_ hB ?_
  · intro u hu
    obtain ⟨_, _, rfl⟩ := List.mem_map.1 hu
    rfl
  · unfold maxLen; omega
  · omega
  · intro v' w' h1 h2
    obtain ⟨a', c', rfl⟩ := own_slice h1
    exact h a' c' w' ⟨by simpa using h1, hsum⟩ h2

end Go.Proofs.YtjelmidkkpchkaaGreatDoor
end

section
namespace Go.Proofs.YtjelmidkkpchkaaGreatDoor
open Go.RowKit

set_option maxHeartbeats 400000 in
theorem l03Lower_any (s : ByteArray) (lo hi : Int) (w : World) (hs : s.size ≤ 9223372036854775807) :
    Calls Tryz.prog 112 #[.string s, .int .i64 lo, .int .i64 hi] w fun e w' => e = .returned (.bool (smallB s lo hi)) ∧ w = w' := by
  go_enter Tryz.func112, Tryz.ntmps112
  go_wp2
  go_loop [7] (fun i => ∃ k : Nat, k ≤ s.size ∧ i = .int .i64 k ∧ ∀ j (hj : j < s.size), j < k → 97 ≤ (s[j].toNat : Int) ∧ (s[j].toNat : Int) ≤ 122) (fun i => s.size - (intOf i).toNat)
  case atStart => exact ⟨0, Nat.zero_le _, rfl, fun j _ h => by omega⟩
  case round =>
    obtain ⟨k, hk, rfl, hall⟩ := hrel
    have HA := Lib.hid hall
    clear hall
    by_cases hlt : k < s.size
    · by_cases h1 : (s[k].toNat : Int) < 97
      · go_wp2
        go_ret
        exact ⟨ret_bool (by rw [smallB, lowB_bad hlt (.inl h1), Bool.and_false]), rfl⟩
      · by_cases h2 : (122 : Int) < s[k].toNat
        · go_wp2
          go_ret
          exact ⟨ret_bool (by rw [smallB, lowB_bad hlt (.inr h2), Bool.and_false]), rfl⟩
        · go_wp2
          go_round
          case rel =>
            refine ⟨k + 1, by omega, by go_num, fun j hj hjk => ?_⟩
            by_cases e : j = k
            · subst e; omega
            · exact HA.out j hj (by omega)
          case measure => simp [intOf]; omega
    · obtain rfl : k = s.size := by omega
      go_wp2_with (first | (go_at_call 55; refine (l01In_any _ _ _ _).mono ?_; rintro e w' ⟨rfl, rfl⟩))
      go_ret
      exact ⟨ret_bool (by rw [smallB, lowB_good (fun j hj => HA.out j hj hj), Bool.and_true]), rfl⟩

end Go.Proofs.YtjelmidkkpchkaaGreatDoor
end

section
namespace Go.Proofs.YtjelmidkkpchkaaGreatDoor

def idxP {α : Type} (p : α → Bool) (xs : List α) : Int := match xs.findIdx? p with | some k => (k : Int) | none => -1
def anyP {α : Type} (p : α → Bool) (xs : List α) : Bool := decide (0 ≤ idxP p xs)
theorem idxP_at {α : Type} {p : α → Bool} {xs : List α} {k : Nat} (hk : k < xs.length) (h : p xs[k] = true) (hp : ∀ j (hj : j < xs.length), j < k → p xs[j] = false) : idxP p xs = k := by
  have e : xs.findIdx? p = some k := by
    rw [List.findIdx?_eq_some_iff_getElem]
    exact ⟨hk, h, fun j hj => by rw [hp j (by omega) hj]; decide⟩
  rw [idxP, e]
theorem idxP_none {α : Type} {p : α → Bool} {xs : List α} (hp : ∀ j (hj : j < xs.length), p xs[j] = false) : idxP p xs = -1 := by
  have e : xs.findIdx? p = none := by
    rw [List.findIdx?_eq_none_iff]
    intro x hx
    obtain ⟨j, hj, rfl⟩ := List.getElem_of_mem hx
    exact hp j hj
  rw [idxP, e]
theorem idxP_cases {α : Type} (p : α → Bool) (xs : List α) : (idxP p xs = -1 ∧ ∀ j (hj : j < xs.length), p xs[j] = false) ∨ ∃ k, ∃ hk : k < xs.length, idxP p xs = (k : Nat) ∧ p xs[k] = true ∧ ∀ j (hj : j < xs.length), j < k → p xs[j] = false := by
  cases h : xs.findIdx? p with
  | none => exact .inl ⟨by rw [idxP, h], fun j hj => List.findIdx?_eq_none_iff.1 h _ (List.getElem_mem hj)⟩
  | some k =>
    obtain ⟨hk, he, hp⟩ := List.findIdx?_eq_some_iff_getElem.1 h
    exact .inr ⟨k, hk, by rw [idxP, h], he, fun j hj hjk => by simpa using hp j hjk⟩
theorem anyP_none {α : Type} {p : α → Bool} {xs : List α} (hp : ∀ j (hj : j < xs.length), p xs[j] = false) : anyP p xs = false := by rw [anyP, idxP_none hp]; rfl
theorem anyP_at {α : Type} {p : α → Bool} {xs : List α} {k : Nat} (hk : k < xs.length) (h : p xs[k] = true) : anyP p xs = true := by
  rcases idxP_cases p xs with ⟨_, h2⟩ | ⟨m, _, h1, _⟩
  · rw [h2 k hk] at h; cases h
  · rw [anyP, h1]; simp
theorem anyP_of {α : Type} {p : α → Bool} {xs : List α} (h : anyP p xs = true) : ∃ k, ∃ hk : k < xs.length, idxP p xs = (k : Nat) ∧ p xs[k] = true := by
  rcases idxP_cases p xs with ⟨h1, _⟩ | ⟨m, hm, h1, h2, _⟩
  · rw [anyP, h1] at h; cases h
  · exact ⟨m, hm, h1, h2⟩
theorem anyP_not {α : Type} {p : α → Bool} {xs : List α} (h : anyP p xs = false) : idxP p xs = -1 ∧ ∀ j (hj : j < xs.length), p xs[j] = false := by
  rcases idxP_cases p xs with h1 | ⟨m, hm, h1, _⟩
  · exact h1
  · rw [anyP, h1] at h; simp at h

end Go.Proofs.YtjelmidkkpchkaaGreatDoor
end

section
namespace Go.Proofs.YtjelmidkkpchkaaGreatDoor
open Go.RowKit

def selN (n : Nat) (p : Nat → Bool) : List Int := ((List.range n).filter p).map fun (i : Nat) => (i : Int)
theorem selN_yes {k : Nat} {p : Nat → Bool} (h : p k = true) : selN (k + 1) p = selN k p ++ [(k : Int)] := by
  simp [selN, List.range_succ, h]
theorem selN_no {k : Nat} {p : Nat → Bool} (h : p k = false) : selN (k + 1) p = selN k p := by
  simp [selN, List.range_succ, h]
theorem selN_len (k : Nat) (p : Nat → Bool) : (selN k p).length ≤ k := by
  rw [selN, List.length_map]
  exact Nat.le_trans (List.length_filter_le _ _) (by simp)
def OwnV (w : World) (B : Nat) (v : Value) (zs : List Int) : Prop := ∃ a n c, v = .slice a n c ∧ OwnI w B a n c zs
theorem OwnV.isNil (w : World) (B : Nat) : OwnV w B (.slice none 0 0) [] := ⟨_, _, _, rfl, OwnI.isNil w B, by decide⟩
theorem OwnV.lit0 (w : World) {B : Nat} (hB : B ≤ w.heap.size) : OwnV (w.alloc (.cells #[] 2)) B (.slice (some ⟨w.heap.size, 0, none⟩) 0 0) [] := ⟨_, _, _, rfl, OwnI.lit0 w hB, by decide⟩
/-- A list and a code. -/
def RetLC (w : World) (zs : List Int) (code : Int) (e : Ending) (w' : World) : Prop := ∃ v, e = .returned (.tuple #[v, .int .i64 code]) ∧ NewI w w' zs v
def RetBC (w : World) (b : Bool) (code : Int) (e : Ending) (w' : World) : Prop := e = .returned (.tuple #[.bool b, .int .i64 code]) ∧ Ext w w'
def RetIC (w : World) (z : Int) (code : Int) (e : Ending) (w' : World) : Prop := e = .returned (.tuple #[.int .i64 z, .int .i64 code]) ∧ Ext w w'
theorem NewI.nil (w w' : World) (h : Ext w w') : NewI w w' [] (.slice none 0 0) := ⟨none, 0, 0, rfl, ⟨OwnI.isNil _ _, by decide⟩, h⟩
theorem NewI.pre {w0 w w' : World} {zs : List Int} {v : Value} (h0 : Ext w0 w) (h : NewI w w' zs v) : NewI w0 w' zs v := by
  obtain ⟨a, n, c, rfl, ho, hx⟩ := h
  exact ⟨a, n, c, rfl, ho.mono h0.size, h0.trans hx⟩

end Go.Proofs.YtjelmidkkpchkaaGreatDoor
end

section
namespace Go.Proofs.YtjelmidkkpchkaaGreatDoor
open Go.ChangeShapes Go.WideShapes Go.ChangeAt Go.RowKit
open Go.ChangeMaps (open_string shut_string)

theorem own : ownKnob Tryz.prog.godebug = none := by kernel_rfl
theorem laidOut : laidOutB Tryz.prog = true := by kernel_rfl

/-- Cells from an address on, as 'Rd' has them. -/
theorem rd_of_cells {w : World} {x : Addr} {xs : List Value} (h : ∀ i u, xs[i]? = some u → w.cell? (x.add i) = some u) : Rd w (some x) xs := by
  cases xs with
  | nil => exact .inl rfl
  | cons v vs =>
    have h0 := h 0 v rfl
    obtain ⟨b, o, s⟩ := x
    have hs : s = none := by simpa [Addr.add] using World.cell?_spot h0
    subst hs
    refine .inr ⟨b, o, rfl, ?_, fun j u hu => ?_⟩
    · have := World.block_lt_of_cell? w _ h0
      simpa [Addr.add] using this
    · have := h j u hu
      rwa [Addr.add_lit] at this

/-- A slice of ints that came in: n elements, read as zs; how many is not bounded. -/
def InI (w : World) (a : Option Addr) (n : Nat) (zs : List Int) : Prop := zs.length = n ∧ Rd w a (zs.map (Value.int .i64))
theorem InI.rdI {w : World} {a : Option Addr} {n : Nat} {zs : List Int} (h : InI w a n zs) (hn : n ≤ 4294967296) : RdI w a n zs := ⟨h.1, hn, h.2⟩

section
variable {H : Type} {enc : TypeId × Value → H} {w : World} {spare : Nat → Bool} {held : Bool} {a : Option Addr} {n c : Nat} {d : DataW H} {p : List MemPlace} {t : TypeId} {v : Value}

theorem open_inI (h : DataW.Trod enc Tryz.prog w 0 spare held 30 (.slice a n c) d p) : ∃ zs, InI w a n zs := by
  obtain ⟨fuel, hf⟩ := h
  rcases open_ints Tryz.underlying30 Tryz.underlying2 (by kernel_rfl) hf with ⟨hcs, _⟩ | ⟨x, l, c', zs, hcs, _, hl, hm, hz, _, hcell, hwz⟩
  · simp [Value.cells] at hcs
    obtain ⟨rfl, rfl, rfl⟩ := hcs
    exact ⟨[], rfl, .inl rfl⟩
  · simp [Value.cells] at hcs
    obtain ⟨rfl, rfl, rfl⟩ := hcs
    have hln : n ≤ zs.length := by rw [hz]; split <;> omega
    refine ⟨zs.take n, by simp; omega, rd_of_cells fun i u hu => ?_⟩
    have hi := (List.getElem?_eq_some_iff.1 hu).1
    simp at hi
    rw [hcell i (by omega)]
    simp [List.getElem?_take, show i < zs.length by omega] at hu
    simp [hu.2, show i < zs.length by omega]
theorem trod_lt (h : DataW.Trod enc Tryz.prog w 0 spare held t v d p) : ∀ x ∈ p, x.block < w.heap.size := by
  obtain ⟨m, hm⟩ := h
  exact DataW.trod_lt m _ _ _ hm
end
end Go.Proofs.YtjelmidkkpchkaaGreatDoor
end

section
namespace Go.Proofs.YtjelmidkkpchkaaGreatDoor
open Go.RowKit

/-- A text and a code. -/
def RetSC (w : World) (s : ByteArray) (code : Int) (e : Ending) (w' : World) : Prop := e = .returned (.tuple #[.string s, .int .i64 code]) ∧ Ext w w'

end Go.Proofs.YtjelmidkkpchkaaGreatDoor
end
